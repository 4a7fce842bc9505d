/- Own texts, one behind the other. No condition. -/
import Derived.Test.YtipdlnejmcmbbaaGreatDoorObPkBI
import Derived.Shelf.SlIterI.Nil
import Derived.Shelf.SlIterI.Collect
import Derived.Shelf.SortM.Plain
import Derived.Shelf.SortM.SortNone
import Derived.Shelf.SlLaysF
import Derived.Shelf.SlLaysH
import Derived.Ground.GgzProg
import Derived.Ground.SlgmProg
import Derived.Ground.SlsfProg
set_option linter.unusedVariables false
set_option maxRecDepth 100000
set_option maxHeartbeats 8000000
set_option linter.unusedSimpArgs false
namespace Go.Proofs
section
open YtipdlnejmcmbbaaGreatDoor (Xc Xd Xe Xf Xg Xh)
open Go.Shelf
def Tryz.Di:Go.Shelf.Ren:=⟨fun|7=>111|10=>185|n=>n,fun|23=>158|26=>3|3=>3|28=>107|0=>0|27=>106|33=>156|4=>4|n=>n,fun|n=>n⟩
theorem Tryz.SL:Go.Proofs.SlLaysZI.n7 Tryz.prog Tryz.Di:={
 mixed:=by kernel_rfl
 f7:=⟨Tryz.f111.name,Xg,Tryz.func111.trans Xc⟩
 f10:=⟨Tryz.f185.name,Xg,Tryz.func185.trans Xc⟩
 t0:=Tryz.underlying0
 a0:=Tryz.isAgg0
 z0:=Tryz.sizeOf0
 v0:=Tryz.zeroValue0
 t4:=Tryz.underlying4
 a4:=Tryz.isAgg4
 z4:=Tryz.sizeOf4
 v4:=Tryz.zeroValue4
 t23:=Tryz.underlying158
 a23:=Tryz.isAgg158
 z23:=Tryz.sizeOf158
 v23:=Tryz.zeroValue158
 t26:=Tryz.underlying3
 a26:=Tryz.isAgg3
 z26:=Tryz.sizeOf3
 v26:=Tryz.zeroValue3
 t27:=Tryz.underlying106
 a27:=Tryz.isAgg106
 z27:=Tryz.sizeOf106
 v27:=Tryz.zeroValue106
 t28:=Tryz.underlying107
 a28:=Tryz.isAgg107
 z28:=Tryz.sizeOf107
 v28:=Tryz.zeroValue107
 t33:=Tryz.underlying156
 a33:=Tryz.isAgg156
 z33:=Tryz.sizeOf156
 v33:=Tryz.zeroValue156}
def Tryz.uz:Go.Shelf.Ren:=⟨fun|7=>51|10=>108|n=>n,fun|23=>101|26=>3|3=>110|28=>107|0=>0|27=>106|33=>156|4=>4|n=>n,fun|n=>n⟩
theorem Tryz.EB:Go.Proofs.SlLaysZI.n7 Tryz.prog Tryz.uz:={
 mixed:=by kernel_rfl
 f7:=⟨Tryz.f51.name,Xg,Tryz.func51.trans Xc⟩
 f10:=⟨Tryz.f108.name,Xg,Tryz.func108.trans Xc⟩
 t0:=Tryz.underlying0
 a0:=Tryz.isAgg0
 z0:=Tryz.sizeOf0
 v0:=Tryz.zeroValue0
 t4:=Tryz.underlying4
 a4:=Tryz.isAgg4
 z4:=Tryz.sizeOf4
 v4:=Tryz.zeroValue4
 t23:=Tryz.underlying101
 a23:=Tryz.isAgg101
 z23:=Tryz.sizeOf101
 v23:=Tryz.zeroValue101
 t26:=Tryz.underlying3
 a26:=Tryz.isAgg3
 z26:=Tryz.sizeOf3
 v26:=Tryz.zeroValue3
 t27:=Tryz.underlying106
 a27:=Tryz.isAgg106
 z27:=Tryz.sizeOf106
 v27:=Tryz.zeroValue106
 t28:=Tryz.underlying107
 a28:=Tryz.isAgg107
 z28:=Tryz.sizeOf107
 v28:=Tryz.zeroValue107
 t33:=Tryz.underlying156
 a33:=Tryz.isAgg156
 z33:=Tryz.sizeOf156
 v33:=Tryz.zeroValue156}
def Tryz.qD:Go.Shelf.Ren:=⟨fun|6=>50|8=>56|9=>107|11=>112|13=>142|12=>184|23=>223|24=>224|14=>256|15=>257|16=>258|17=>259|18=>260|19=>261|20=>262|21=>263|22=>264|25=>309|26=>285|27=>286|28=>310|29=>311|30=>312|31=>331|n=>n,fun|26=>3|28=>107|24=>85|0=>0|3=>3|37=>180|48=>267|50=>95|4=>4|40=>261|39=>260|45=>223|5=>5|9=>9|51=>329|55=>332|57=>367|58=>181|33=>156|n=>n,fun|n=>n⟩
theorem Tryz.JR:Go.Proofs.SlLaysZI.n6 Tryz.prog Tryz.qD:={
 mixed:=by kernel_rfl
 f6:=⟨Tryz.f50.name,Xg,Tryz.func50.trans Xc⟩
 f8:=⟨Tryz.f56.name,Xg,Tryz.func56.trans Xc⟩
 f11:=⟨Tryz.f112.name,Xg,Tryz.func112.trans Xc⟩
 t0:=Tryz.underlying0
 a0:=Tryz.isAgg0
 z0:=Tryz.sizeOf0
 v0:=Tryz.zeroValue0
 t24:=Tryz.underlying85
 a24:=Tryz.isAgg85
 z24:=Tryz.sizeOf85
 v24:=Tryz.zeroValue85
 t26:=Tryz.underlying3
 a26:=Tryz.isAgg3
 z26:=Tryz.sizeOf3
 v26:=Tryz.zeroValue3
 t28:=Tryz.underlying107
 a28:=Tryz.isAgg107
 z28:=Tryz.sizeOf107
 v28:=Tryz.zeroValue107
 i26:=by kernel_rfl}
def Tryz.Ik:Go.Shelf.Ren:=⟨fun|8=>56|11=>112|n=>n,fun|26=>3|28=>107|24=>85|0=>0|33=>156|4=>4|n=>n,fun|n=>n⟩
theorem Tryz.Qx:Go.Proofs.SlLaysZI.n8 Tryz.prog Tryz.Ik:={
 mixed:=by kernel_rfl
 f8:=⟨Tryz.f56.name,Xg,Tryz.func56.trans Xc⟩
 f11:=⟨Tryz.f112.name,Xg,Tryz.func112.trans Xc⟩
 t0:=Tryz.underlying0
 a0:=Tryz.isAgg0
 z0:=Tryz.sizeOf0
 v0:=Tryz.zeroValue0
 t24:=Tryz.underlying85
 a24:=Tryz.isAgg85
 z24:=Tryz.sizeOf85
 v24:=Tryz.zeroValue85
 t26:=Tryz.underlying3
 a26:=Tryz.isAgg3
 z26:=Tryz.sizeOf3
 v26:=Tryz.zeroValue3
 t28:=Tryz.underlying107
 a28:=Tryz.isAgg107
 z28:=Tryz.sizeOf107
 v28:=Tryz.zeroValue107
 i26:=by kernel_rfl}
def Tryz.Py:Go.Shelf.Ren:=⟨fun|5=>107|8=>142|7=>184|19=>223|20=>224|10=>256|11=>257|12=>258|13=>259|14=>260|15=>261|16=>262|17=>263|18=>264|30=>309|31=>285|32=>286|33=>310|34=>311|35=>312|40=>331|n=>n,fun|23=>85|25=>3|3=>3|32=>180|22=>85|0=>0|44=>267|46=>95|4=>4|36=>261|35=>260|41=>223|5=>5|9=>9|53=>329|57=>332|63=>367|64=>181|n=>n,fun|n=>n⟩
theorem Tryz.EF:Go.Proofs.SlLaysM.n5 Tryz.prog Tryz.Py:={
 mixed:=by kernel_rfl
 f5:=⟨Tryz.f107.name,Xg,Tryz.func107.trans Xc⟩
 f7:=⟨Tryz.f184.name,Xg,Tryz.func184.trans Xc⟩
 f8:=Tryz.func142.trans Xc
 f10:=⟨Tryz.f256.name,Xg,Tryz.func256.trans Xc⟩
 f11:=⟨Tryz.f257.name,Xg,Tryz.func257.trans Xc⟩
 f12:=⟨Tryz.f258.name,Xg,Tryz.func258.trans Xc⟩
 f13:=⟨Tryz.f259.name,Xg,Tryz.func259.trans Xc⟩
 f14:=⟨Tryz.f260.name,Xg,Tryz.func260.trans Xc⟩
 f15:=⟨Tryz.f261.name,Xg,Tryz.func261.trans Xc⟩
 f16:=⟨Tryz.f262.name,Xg,Tryz.func262.trans Xc⟩
 f17:=⟨Tryz.f263.name,Xg,Tryz.func263.trans Xc⟩
 f18:=⟨Tryz.f264.name,Xg,Tryz.func264.trans Xc⟩
 f19:=Tryz.func223.trans Xc
 f20:=Tryz.func224.trans Xc
 f30:=⟨Tryz.f309.name,Xg,Tryz.func309.trans Xc⟩
 f31:=Tryz.func285.trans Xc
 f32:=Tryz.func286.trans Xc
 f33:=⟨Tryz.f310.name,Xg,Tryz.func310.trans Xc⟩
 f34:=⟨Tryz.f311.name,Xg,Tryz.func311.trans Xc⟩
 f35:=⟨Tryz.f312.name,Xg,Tryz.func312.trans Xc⟩
 f40:=⟨Tryz.f331.name,Xg,Tryz.func331.trans Xc⟩
 t0:=Tryz.underlying0
 a0:=Tryz.isAgg0
 z0:=Tryz.sizeOf0
 v0:=Tryz.zeroValue0
 t3:=Tryz.underlying3
 a3:=Tryz.isAgg3
 z3:=Tryz.sizeOf3
 v3:=Tryz.zeroValue3
 t4:=Tryz.underlying4
 a4:=Tryz.isAgg4
 z4:=Tryz.sizeOf4
 v4:=Tryz.zeroValue4
 t5:=Tryz.underlying5
 a5:=Tryz.isAgg5
 z5:=Tryz.sizeOf5
 v5:=Tryz.zeroValue5
 t9:=Tryz.underlying9
 a9:=Tryz.isAgg9
 z9:=Tryz.sizeOf9
 v9:=Tryz.zeroValue9
 t22:=Tryz.underlying85
 a22:=Tryz.isAgg85
 z22:=Tryz.sizeOf85
 v22:=Tryz.zeroValue85
 t23:=Tryz.underlying85
 a23:=Tryz.isAgg85
 z23:=Tryz.sizeOf85
 v23:=Tryz.zeroValue85
 t25:=Tryz.underlying3
 a25:=Tryz.isAgg3
 z25:=Tryz.sizeOf3
 v25:=Tryz.zeroValue3
 t32:=Tryz.underlying180
 a32:=Tryz.isAgg180
 z32:=Tryz.sizeOf180
 v32:=Tryz.zeroValue180
 t35:=Tryz.underlying260
 a35:=Tryz.isAgg260
 z35:=Tryz.sizeOf260
 v35:=Tryz.zeroValue260
 t36:=Tryz.underlying261
 a36:=Tryz.isAgg261
 z36:=Tryz.sizeOf261
 v36:=Tryz.zeroValue261
 t41:=Tryz.underlying223
 a41:=Tryz.isAgg223
 z41:=Tryz.sizeOf223
 v41:=Tryz.zeroValue223
 t44:=Tryz.underlying267
 a44:=Tryz.isAgg267
 z44:=Tryz.sizeOf267
 v44:=Tryz.zeroValue267
 t46:=Tryz.underlying95
 a46:=Tryz.isAgg95
 z46:=Tryz.sizeOf95
 v46:=Tryz.zeroValue95
 t53:=Tryz.underlying329
 a53:=Tryz.isAgg329
 z53:=Tryz.sizeOf329
 v53:=Tryz.zeroValue329
 t57:=Tryz.underlying332
 a57:=Tryz.isAgg332
 z57:=Tryz.sizeOf332
 v57:=Tryz.zeroValue332
 t63:=Tryz.underlying367
 a63:=Tryz.isAgg367
 z63:=Tryz.sizeOf367
 v63:=Tryz.zeroValue367
 t64:=Tryz.underlying181
 a64:=Tryz.isAgg181
 z64:=Tryz.sizeOf181
 v64:=Tryz.zeroValue181}
def Tryz.IL:Go.Shelf.Ren:=⟨fun|10=>68|6=>140|n=>n,fun|22=>51|23=>9|25=>132|3=>3|4=>4|0=>0|n=>n,fun|n=>n⟩
theorem Tryz.Us:Go.Proofs.SlLaysH.n10 Tryz.prog Tryz.IL:={
 mixed:=by kernel_rfl
 f6:=⟨Tryz.f140.name,Xg,Tryz.func140.trans Xc⟩
 f10:=⟨Tryz.f68.name,Xg,Tryz.func68.trans Xc⟩
 t0:=Tryz.underlying0
 a0:=Tryz.isAgg0
 z0:=Tryz.sizeOf0
 v0:=Tryz.zeroValue0
 t3:=Tryz.underlying3
 a3:=Tryz.isAgg3
 z3:=Tryz.sizeOf3
 v3:=Tryz.zeroValue3
 t4:=Tryz.underlying4
 a4:=Tryz.isAgg4
 z4:=Tryz.sizeOf4
 v4:=Tryz.zeroValue4
 t22:=Tryz.underlying51
 a22:=Tryz.isAgg51
 z22:=Tryz.sizeOf51
 v22:=Tryz.zeroValue51
 a23:=Tryz.isAgg9
 z23:=Tryz.sizeOf9
 t25:=Tryz.underlying132
 a25:=Tryz.isAgg132
 z25:=Tryz.sizeOf132
 v25:=Tryz.zeroValue132}
def Tryz.Ep:Go.Shelf.Ren:=⟨fun|6=>71|15=>142|14=>141|28=>223|29=>224|20=>215|21=>216|22=>217|23=>218|24=>219|25=>220|26=>221|27=>222|46=>284|47=>285|48=>286|49=>287|50=>288|57=>322|n=>n,fun|22=>51|24=>9|25=>134|3=>3|39=>180|0=>0|53=>267|55=>95|4=>4|46=>261|45=>260|50=>223|5=>5|9=>9|66=>329|70=>332|76=>367|77=>181|n=>n,fun|n=>n⟩
theorem Tryz.BX:Go.Proofs.SlLaysF.n6 Tryz.prog Tryz.Ep:={
 mixed:=by kernel_rfl
 f6:=⟨Tryz.f71.name,Xg,Tryz.func71.trans Xc⟩
 f14:=⟨Tryz.f141.name,Xg,Tryz.func141.trans Xc⟩
 f15:=Tryz.func142.trans Xc
 f20:=⟨Tryz.f215.name,Xg,Tryz.func215.trans Xc⟩
 f21:=⟨Tryz.f216.name,Xg,Tryz.func216.trans Xc⟩
 f22:=⟨Tryz.f217.name,Xg,Tryz.func217.trans Xc⟩
 f23:=⟨Tryz.f218.name,Xg,Tryz.func218.trans Xc⟩
 f24:=⟨Tryz.f219.name,Xg,Tryz.func219.trans Xc⟩
 f25:=⟨Tryz.f220.name,Xg,Tryz.func220.trans Xc⟩
 f26:=⟨Tryz.f221.name,Xg,Tryz.func221.trans Xc⟩
 f27:=⟨Tryz.f222.name,Xg,Tryz.func222.trans Xc⟩
 f28:=Tryz.func223.trans Xc
 f29:=Tryz.func224.trans Xc
 f46:=⟨Tryz.f284.name,Xg,Tryz.func284.trans Xc⟩
 f47:=Tryz.func285.trans Xc
 f48:=Tryz.func286.trans Xc
 f49:=⟨Tryz.f287.name,Xg,Tryz.func287.trans Xc⟩
 f50:=⟨Tryz.f288.name,Xg,Tryz.func288.trans Xc⟩
 f57:=⟨Tryz.f322.name,Xg,Tryz.func322.trans Xc⟩
 t0:=Tryz.underlying0
 a0:=Tryz.isAgg0
 z0:=Tryz.sizeOf0
 v0:=Tryz.zeroValue0
 t3:=Tryz.underlying3
 a3:=Tryz.isAgg3
 z3:=Tryz.sizeOf3
 v3:=Tryz.zeroValue3
 t4:=Tryz.underlying4
 a4:=Tryz.isAgg4
 z4:=Tryz.sizeOf4
 v4:=Tryz.zeroValue4
 t5:=Tryz.underlying5
 a5:=Tryz.isAgg5
 z5:=Tryz.sizeOf5
 v5:=Tryz.zeroValue5
 t9:=Tryz.underlying9
 a9:=Tryz.isAgg9
 z9:=Tryz.sizeOf9
 v9:=Tryz.zeroValue9
 t22:=Tryz.underlying51
 a22:=Tryz.isAgg51
 z22:=Tryz.sizeOf51
 v22:=Tryz.zeroValue51
 a24:=Tryz.isAgg9
 z24:=Tryz.sizeOf9
 t25:=Tryz.underlying134
 a25:=Tryz.isAgg134
 z25:=Tryz.sizeOf134
 v25:=Tryz.zeroValue134
 t39:=Tryz.underlying180
 a39:=Tryz.isAgg180
 z39:=Tryz.sizeOf180
 v39:=Tryz.zeroValue180
 t45:=Tryz.underlying260
 a45:=Tryz.isAgg260
 z45:=Tryz.sizeOf260
 v45:=Tryz.zeroValue260
 t46:=Tryz.underlying261
 a46:=Tryz.isAgg261
 z46:=Tryz.sizeOf261
 v46:=Tryz.zeroValue261
 t50:=Tryz.underlying223
 a50:=Tryz.isAgg223
 z50:=Tryz.sizeOf223
 v50:=Tryz.zeroValue223
 t53:=Tryz.underlying267
 a53:=Tryz.isAgg267
 z53:=Tryz.sizeOf267
 v53:=Tryz.zeroValue267
 t55:=Tryz.underlying95
 a55:=Tryz.isAgg95
 z55:=Tryz.sizeOf95
 v55:=Tryz.zeroValue95
 t66:=Tryz.underlying329
 a66:=Tryz.isAgg329
 z66:=Tryz.sizeOf329
 v66:=Tryz.zeroValue329
 t70:=Tryz.underlying332
 a70:=Tryz.isAgg332
 z70:=Tryz.sizeOf332
 v70:=Tryz.zeroValue332
 t76:=Tryz.underlying367
 a76:=Tryz.isAgg367
 z76:=Tryz.sizeOf367
 v76:=Tryz.zeroValue367
 t77:=Tryz.underlying181
 a77:=Tryz.isAgg181
 z77:=Tryz.sizeOf181
 v77:=Tryz.zeroValue181}
end
end Go.Proofs
namespace Go.Proofs.YtipdlnejmcmbbaaGreatDoor
section
open Go.RowKit Go.Maps
theorem uS:Keyed Tryz.prog 3:=int_keyed Tryz.underlying3
theorem wf_i64 {x:Int} (h1: -9223372036854775808≤x) (h2:x≤9223372036854775807):(Lit.int .i64 x).wf=true:=by
 simp[Lit.wf,IntKind.min,IntKind.max,IntKind.signed,IntKind.bits];omega
theorem Wj (m:Nat):AnyZI.SortsIn Tryz.prog Tryz.qD Fence.wide m:=
 ⟨fun blk off cap ss W hH hblk hsz=>callsIn_wide.2 (AnyM.slices_Sort_int Tryz.EF blk off cap ss W hH hblk hsz),
  fun p cap W=>callsIn_wide.2 (AnyM.slices_Sort_int_none Tryz.EF p cap W)⟩
end
section
open Go.RowKit Go.Maps
def Ri:Value→Option (DataW Value×List MemPlace)
 | .int .i64 n=>some (.held (.int .i64 n),[])
 |_=>none
theorem Vp {v:Value} {x:DataW Value×List MemPlace} (h:Ri v=some x):∃n,v= .int .i64 n:=by
 unfold Ri at h
 split at h
 · exact⟨_,rfl⟩
 · cases h
theorem WE (n:Int):Ri (.int .i64 n)=some (.held (.int .i64 n),[]):=rfl
def jR (w:World) (P:Program) (b q:Nat) (K:List Int):Prop:=∃D:DataW Value,w.ownsMap P 3 Ri b q D∧IsMap D∧∀x,has D (.int .i64 x)=K.contains x
theorem jR.at {w w':World} {P:Program} {b q:Nat} {K:List Int} (h:jR w P b q K) (e:w'.heap[b]?=w.heap[b]?):jR w' P b q K:=by
 obtain⟨D,⟨es,cl,hb,r⟩,h2⟩:=h
 exact⟨D,⟨es,cl,e.trans hb,r⟩,h2⟩
theorem Rn {D:DataW Value} {K:List Int} (hm:IsMap D) (hh:∀x,has D (.int .i64 x)=K.contains x) (y:Int) (d:DataW Value):∀x,has (D.put (.int .i64 y) d) (.int .i64 x)=(K++ [y]).contains x:=by
 intro x
 rw[List.contains_append]
 by_cases e:x=y
 · subst e
   rw[has_put_same hm (show WideAt.IsKeyLit (Lit.int .i64 x) from trivial)]
   simp
 · rw[has_put_other (by intro h;injection h with _ h;exact e h),hh]
   have :[y].contains x=false:=by simpa using e
   rw[this,Bool.or_false]
theorem Uv (a d l p:Int):(upI a d l p).length≤300:=by
 have n1:=dM a d l
 have n2:=bM a d l
 unfold upI
 split
 · rename_i h
   have :0≤p∧p<av a d l+ay a d l:=by unfold fI at h;simpa using h
   rw[List.length_map]
   have :=Pk a.toNat p.toNat
   omega
 · simp
theorem Sm (a d l p:Int):∀z∈upI a d l p,0≤z∧z≤1000:=by
 intro z hz
 have n1:=dM a d l
 have n2:=bM a d l
 unfold upI at hz
 split at hz
 · rename_i h
   have h:0≤p∧p<av a d l+ay a d l:=by unfold fI at h;simpa using h
   have :=(mem_cast _ z).1 hz
   have :=rY this.2
   omega
 · cases hz
theorem wR (a d l:Int) (B:Option Addr) (m c:Nat) (S:List Int) (w:World) (h:Is w B m c S) (hm:m≤64):
 Calls Tryz.prog 55 #[.agg #[.int .i64 a,.int .i64 d,.int .i64 l],.slice B m c] w (wM w (jl a d l S (au a d l).toNat)):=by
 obtain⟨wl,HWL,HB,HCELL⟩:=iO w a d l
 have hmm:=@run_makeMap Tryz.prog
 have HLN:=Xh h.len
 have hmax:=h.max
 have hcap:=h.cap
 have HI:Hid (Is wl B m c S):=h.mono HB.out
 have HE:=Xh (Qm (a:=a) (d:=d) (l:=l) S)
 have hsz0:wl.heap.size≤w.heap.size+1:=by rw[HWL.out];simp
 have hsz1:w.heap.size+1≤wl.heap.size:=by rw[HWL.out];simp
 clear h
 have K0:Hid (jR (wl.alloc (.map #[] 0)) Tryz.prog (w.heap.size+1) 0 []):=by
  have e:w.heap.size+1=wl.heap.size:=by omega
  rw[e]
  exact⟨.map [],World.ownsMap_made _ _ _ _,isMap_empty,fun x=>rfl⟩
 go_in
 go_wp2_with fail
 rw[←HWL.out]
 go_loopw [13] (fun i wr=>∃k:Nat,k≤m∧i= .int .i64 k∧jR wr Tryz.prog (w.heap.size+1) (k*300) ((S.take k).flatMap fun s=>upI a d l (aW a d l s))∧Below wl.heap.size wl wr∧w.heap.size+1<wr.heap.size) (fun i _=>m - (intOf i).toNat)
 case atStart=>exact⟨0,Nat.zero_le _,rfl,K0.out,(Below.refl _ _).alloc (Nat.le_refl _) _,by simp;omega⟩
 case round=>
  obtain⟨k,hk,rfl,hkeys,hbel,hlz⟩:=hrel
  have HKS:=Xh hkeys;clear hkeys
  by_cases hlt:k<m
  · obtain⟨b,o,rfl,hc⟩:=Is.addr (l:=S) (HI.out.mono hbel) Xf
    have c3:=hc k hlt
    clear hc
    have HT:Hid ((S.take (k+1)).flatMap (fun s=>upI a d l (aW a d l s))=(S.take k).flatMap (fun s=>upI a d l (aW a d l s))++upI a d l (aW a d l (iAt S k))):=by
     have hkl:k<S.length:=by rw[HLN.out];exact hlt
     rw[List.take_succ_eq_append_getElem hkl,List.flatMap_append]
     unfold iAt;rw[List.getD_eq_getElem?_getD,List.getElem?_eq_getElem hkl]
     show _=_
     simp
    have hU1:=Uv a d l (aW a d l (iAt S k))
    have HU2:=Xh (Sm a d l (aW a d l (iAt S k)))
    obtain⟨c0,c1,c2⟩:=HCELL.out wr hbel
    have i0:(0:Int)≤(k:Int):=by omega
    generalize iAt S k=s at *
    go_wp2
    go_region_held3 (fun w'=>w'.cell? ⟨w.heap.size,0,none⟩=some (.int .i64 a)∧w'.cell? ⟨w.heap.size,1,none⟩=some (.int .i64 d)∧w'.cell? ⟨w.heap.size,2,none⟩=some (.int .i64 l)) (go_keep)
     (first
      |(go_at_call 60;refine (kM a d l s _).mono ?_;rintro e w2 ⟨rfl,b2⟩;have B2:=Xh (bBo ((Below.refl _ wr).drew) b2);obtain⟨d0,d1,d2⟩:=HCELL.out w2 (bBo hbel B2.out);clear b2)
      |(go_at_call 110;refine (OI a d l _ _).mono ?_;rintro e w3 ⟨v3,rfl,o3⟩;obtain⟨A3,k3,rfl,s3⟩:=o3.slice;obtain⟨f0,f1,f2⟩:=HCELL.out w3 (bBo hbel (bBo B2.out o3.below));have B3:=Xh (bBo B2.out o3.below);have LT3:=Xh (fun (b:Nat) (e:A3.map Addr.block=some b)=>o3.1.lt b (by cases A3 with|none=>cases e|some q=>simpa [Value.ownBlock] using e));clear o3))
    have HS3:=Xh (show Is w3 A3 _ k3 (upI a d l (aW a d l s)) from s3)
    have m3:=Sl.max s3
    have q3:=Sl.cap s3
    have HK3:Hid (jR w3 Tryz.prog (w.heap.size+1) (k*300) ((S.take k).flatMap fun s=>upI a d l (aW a d l s))):=HKS.out.at (B3.out.block _ hlz)
    have hb3:=bBo hbel B3.out
    have hz3:=B3.out.size
    have hz2:=B2.out.size
    have HBL3:=Xh hb3
    clear s3 d0 d1 d2 f0 f1 f2 c0 c1 c2 c3 hb3
    generalize upI a d l (aW a d l s)=U at *
    generalize ((S.take k).flatMap fun s=>upI a d l (aW a d l s))=K at *
    obtain⟨wo,rfl⟩:∃wo:World,wo=wr:=⟨_,rfl⟩
    go_wp2
    go_loopw [23] (fun i wq=>∃t:Nat,t≤U.length∧i= .int .i64 t∧jR wq Tryz.prog (w.heap.size+1) (k*300+t) (K++U.take t)∧Below wl.heap.size wl wq∧w3.heap.size≤wq.heap.size∧∀b,b<w3.heap.size→b≠w.heap.size+1→wq.heap[b]?=w3.heap[b]?) (fun i _=>U.length - (intOf i).toNat)
    case atStart=>exact⟨0,Nat.zero_le _,rfl,by simpa using HK3.out,HBL3.out,Nat.le_refl _,fun b _ _=>rfl⟩
    case round=>
     obtain⟨t,ht,rfl,hkq,hbq,hzq,hsame⟩:=hrel
     have HSM:=Xh hsame;clear hsame
     by_cases hlt2:t<U.length
     · obtain⟨b3,o3,rfl,hc3⟩:=Is.addr (l:=U) HS3.out Xf
       have hl3:=LT3.out b3 rfl
       have hd3:wr.cell? ⟨b3,o3+t,none⟩=some (.int .i64 (iAt U t)):=(World.cell?_of_block (HSM.out b3 hl3.2 Xf)).trans (hc3 t hlt2)
       clear hc3
       have HTU:Hid (U.take (t+1)=U.take t++ [iAt U t]):=by
        rw[List.take_succ_eq_append_getElem hlt2]
        unfold iAt;rw[List.getD_eq_getElem?_getD,List.getElem?_eq_getElem hlt2];exact rfl
       have hfit:=HU2.out (iAt U t) (by unfold iAt;rw[List.getD_eq_getElem?_getD,List.getElem?_eq_getElem hlt2];exact List.getElem_mem hlt2)
       generalize iAt U t=z at *
       have hkey:keyOf Tryz.prog 3 (.int .i64 z)=some (.int .i64 z):=keyOf_int_mk Tryz.underlying3 (wf_i64 Xf Xf)
       obtain⟨D,hown,hmD,hD⟩:=hkq
       obtain⟨vv,ps,hlook,hRv⟩:=hown.lookup (t:=158) uS Tryz.underlying158 (z:= .int .i64 0) Xe (zd:= .held (.int .i64 0)) (zp:=[]) rfl hkey
       obtain⟨n,rfl⟩:=Vp hRv
       have HD:=Xh hD;clear hD hRv
       go_wp2_with (at_mapUpdate;refine wpList_mapUpdate_own _ rfl _ _ _ 158 rfl 3 3 uS Tryz.underlying158 Ri (w.heap.size+1) (k*300+t) D rfl hown (by unfold maxLen;omega) _ (.int .i64 _) _ rfl rfl hkey _ _ (WE _) ?_;intro w5 hown5 hgrow5)
       have HF:Hid (jR w5 Tryz.prog (w.heap.size+1) (k*300+(t+1)) (K++U.take (t+1))∧Below wl.heap.size wl w5∧w3.heap.size≤w5.heap.size∧∀b,b<w3.heap.size→b≠w.heap.size+1→w5.heap[b]?=w3.heap[b]?):=by
        refine⟨⟨_,hown5.mono Xf,hmD.put _ _,?_⟩,hbq.grown hgrow5 hbq.size (fun j hj=>by cases hj;omega),by have :=hgrow5.size;omega,fun b h1 h2=> ?_⟩
        · rw[HTU.out,←List.append_assoc];exact Rn hmD HD.out z _
        · rw[hgrow5.block b Xf (by intro e;injection e with e;exact h2 e)];exact HSM.out b h1 h2
       clear hown5 hgrow5 hlook
       go_roundw
       case rel=>exact⟨t+1,Xf,by go_num,HF.out.1,HF.out.2.1,HF.out.2.2.1,HF.out.2.2.2⟩
       case measure=>simp[intOf];omega
     · obtain rfl:t=U.length:=by omega
       have HF:Hid (jR wr Tryz.prog (w.heap.size+1) ((k+1)*300) ((S.take (k+1)).flatMap fun s=>upI a d l (aW a d l s))∧w.heap.size+1<wr.heap.size):=by
        refine⟨?_,Xf⟩
        rw[HT.out]
        obtain⟨D,hown,hmD,hD⟩:=hkq
        rw[List.take_of_length_le (Nat.le_refl _)] at hD
        exact⟨D,hown.mono Xf,hmD,hD⟩
       clear hkq
       go_wp2
       go_roundw
       case rel=>exact⟨k+1,Xf,by go_num,HF.out.1,hbq,HF.out.2⟩
       case measure=>simp[intOf];omega
  · obtain rfl:k=m:=by omega
    have HTK:Hid (S.take k=S):=List.take_of_length_le (by rw[HLN.out];omega)
    rw[HTK.out] at HKS
    obtain⟨D,hown,hmD,hD⟩:=HKS.out
    have hszD:Maps.size D≤k*300:=hown.size_le
    have cK:∀mb W,Calls Tryz.prog 111 #[.map mb] W fun e w'=>e= .returned (.func (.func 185) #[] #[.pointer (some ⟨W.heap.size,0,none⟩)])∧w'=W.alloc (.cells #[.map mb] 158):=fun mb W=>(callsIn_wide (n:=5)).1 (AnyZI.keys_in Tryz.SL Fence.wide 5 trivial rfl mb W)
    have hseq:SeqGives Fence.wide 2 Tryz.prog 185 #[.pointer (some ⟨wr.heap.size,0,none⟩)] encZ (fun ss=>ss.Perm (intKeys D)) (Maps.size D) (wr.alloc (.cells #[.map (some (w.heap.size+1))] 158)):=
     AnyZI.keys_gives (ρ:=Tryz.Di) {Tryz.SL with} Fence.wide _ trivial rfl Xf wr.heap.size (w.heap.size+1) (k*300) D _ (by simp) (by simp) (hown.alloc _)
    have cS:=AnyZI.sorted_in Tryz.JR Fence.wide 5 trivial trivial trivial trivial rfl Xf (Wj _) (enters_of Tryz.func107 Xe rfl) 185 #[.pointer (some ⟨wr.heap.size,0,none⟩)] trivial (enters_of Tryz.func185 Xe rfl) _ _ (by simp only[maxLen];omega) Xf _ hseq
    change CallsIn _ _ Tryz.prog 50 _ _ _ at cS
    have CS:=Xh (callsIn_wide.1 cS)
    have HKD:Hid (∀ss:List Int,ss.Perm (intKeys D)→ss.mergeSort (fun x y=>decide (x≤y))=jl a d l S (au a d l).toNat):=fun ss hS=>(FW Tryz.underlying3 uS hown hD hS).trans HE.out
    have CK:=Xh (cK (some (w.heap.size+1)) wr)
    clear cS hseq cK hD hmD hown hszD HKS
    go_wp2_with fail
    refine CK.out.mono ?_
    rintro e w6 ⟨rfl,rfl⟩
    go_wp2_with fail
    refine CS.out.mono ?_
    rintro e w' ⟨v,ss,rfl,hS,hrow,hnil,hb⟩
    have hsort:=HKD.out ss hS
    have hfin:wM w (jl a d l S (au a d l).toNat) (.returned v) w':=by
     refine⟨v,rfl,?_,bBo HB.out (bBo hbel (bBo ((Below.refl _ wr).alloc (Nat.le_refl _) _) hb))⟩
     have h2:=ownsRow_base_a hrow (show w.heap.size≤_ by simp;omega)
     have hlen:ss.length=(jl a d l S (au a d l).toNat).length:=by
      have h1:=congrArg List.length hsort
      rwa[List.length_mergeSort] at h1
     rw[hsort,hlen] at h2
     exact h2
    have HF:=Xh hfin;clear hfin hS hrow hnil hb hsort
    go_wp2
    go_ret
    exact HF.out
end
section
open Go.RowKit
structure TrG (w0:World) (L:Pl) (a d l:Int) (N:Nat) (m:Mc) (n:Nat) (x:Spr) (vl:Value) (next:Nat) (due:Bool) (vk:Value) (pt ps b c:Nat) (R:List aj) (w:World):Prop where
 ms:MSt w0 L m w
 ok:m.Ok n
 n9:n≤90000
 g:Geo a d l
 hN:(N:Int)=au a d l
 ft:Blk w pt 92 (jm L a d l (.pointer (some ⟨ps,0,none⟩)) vk false)
 fx:Blk w ps 150 (aI L a d l x vl next (.slice (some ⟨b,0,none⟩) N c) due false)
 fp:Pgo w0 L.kb w b c N R
 c1:N≤c
 c2:c≤9223372036854775807
 sm:∀r∈R,r.n≤473
section
variable {w0 w w':World} {L:Pl} {a d l:Int} {N:Nat} {m m':Mc} {n n':Nat} {x:Spr} {vl vk:Value} {next:Nat} {due:Bool} {pt ps b c:Nat} {R:List aj}
theorem TrG.gr (h:TrG w0 L a d l N m n x vl next due vk pt ps b c R w) (g:Gr w w'):TrG w0 L a d l N m n x vl next due vk pt ps b c R w':=⟨h.ms.mono g,h.ok,h.n9,h.g,h.hN,g.blk h.ft,g.blk h.fx,h.fp.mono g,h.c1,h.c2,h.sm⟩
theorem TrG.len (h:TrG w0 L a d l N m n x vl next due vk pt ps b c R w):R.length=N:=h.fp.len
theorem TrG.page (h:TrG w0 L a d l N m n x vl next due vk pt ps b c R w) (k:Nat) (hk:k<N):Calls Tryz.prog 62 #[.pointer (some ⟨ps,0,none⟩),.int .i64 (k:Int)] w (fK w ((R.map aj.l).getD k [])):=by
 have hl:=h.len
 have hr:R[k]?=some R[k]:=List.getElem?_eq_getElem Xf
 have e:(R.map aj.l).getD k []=R[k].l:=by rw[List.getD_eq_getElem?_getD,List.getElem?_map,hr];rfl
 rw[e]
 exact DT h.fx L.kb R h.fp k _ hr (Nat.le_trans (h.sm _ (List.mem_of_getElem? hr)) Xg) h.c2 h.c1
abbrev Tk (w:World) (L:Pl) (a d l:Int) (pt ps:Nat) (vk:Value):Prop:=w.cell? ⟨pt,1,none⟩=some (.pointer (some ⟨L.p,0,none⟩))∧w.cell? ⟨pt,2,none⟩=some (.int .i64 a)∧w.cell? ⟨pt,3,none⟩=some (.int .i64 d)∧w.cell? ⟨pt,4,none⟩=some (.int .i64 l)∧w.cell? ⟨pt,5,none⟩=some (.pointer (some ⟨ps,0,none⟩))∧w.cell? ⟨pt,6,none⟩=some vk
theorem TrG.cells (h:TrG w0 L a d l N m n x vl next due vk pt ps b c R w):Tk w L a d l pt ps vk:=⟨h.ft.cell 1,h.ft.cell 2,h.ft.cell 3,h.ft.cell 4,h.ft.cell 5,h.ft.cell 6⟩
end
section
variable {w w':World} {kb:Nat} {a d l:Int}
theorem NW {A:Option Addr} {n c:Nat} (h:Bs w A n c []):n=0:=by have :=h.len;simpa using this.symm
theorem qM (g:Geo a d l) (n:Nat) (hn:(n:Int)=a) (A:Option Addr) (m c:Nat) (L:List (List UInt8)) (hL:L.length=n) (hok:∀x∈L,rowOk x=true) (hb:Bs w A m c (dI L)):
 Calls Tryz.prog 64 #[.agg #[.int .i64 a,.int .i64 d,.int .i64 l],.slice A m c] w (AP w kb n L):=by
 unfold dI at hb
 cases hs:L.any (fun l=>decide (0<l.length)) with
 |true=>rw[hs,if_pos rfl] at hb;exact BI g n hn A m c L hL hok hs hb
 |false=>
  rw[hs,if_neg Xg] at hb
  obtain rfl:=NW hb
  have hE:L=List.replicate n []:=by
   rw[List.any_eq_false] at hs
   refine List.eq_replicate_iff.2 ⟨hL,fun x hx=> ?_⟩
   have :=hs x hx
   simpa using this
  rw[hE]
  exact yS g n hn A c
def hdL:Option (List UInt8×List UInt8)→List UInt8
 |none=>[]
 |some x=>x.1
def wD (w:World) (T:List Nd) (k:List UInt8) (c:Option (List UInt8×List UInt8)) (e:Ending) (w':World):Prop:=∃A n cc z,e= .returned (.tuple #[.string ⟨(hdL c).toArray⟩,.slice A n cc,.int .i64 0])∧Bs w' A n cc z∧n≤400∧Gr w w'∧(∀h v,c=some (h,v)→eP T k z=some v)
theorem mI {T:List Nd} {k b:List UInt8} {c:Option (List UInt8×List UInt8)} (h:lI T k b c) (hT:T.length≤100000) {A:Option Addr} {n cc:Nat} (hb:Bs w A n cc b) (hU:U8 w):
 Calls Tryz.prog 61 #[.slice A n cc] w (wD w T k c):=by
 cases c with
 |none=>
  obtain⟨rfl,rfl⟩:=h
  obtain rfl:=NW hb
  refine (lX A cc w).mono ?_
  rintro e w' ⟨rfl,rfl⟩
  exact⟨none,0,0,[],rfl,Sl.nil _ _,Xg,Gr.refl _,fun _ _ q=>by cases q⟩
 |some x=>
  obtain⟨hd,v⟩:=x
  obtain⟨z,h1,rfl,h3,h4,h5,h6,h7⟩:=h
  have hz:=h7.len hT
  refine (vG hd z A n cc hb h3 Xf h5 Xf Xf hU).mono ?_
  rintro e w' ⟨A',c',rfl,o⟩
  refine⟨A',_,c',z,rfl,(QB.own (kb:=0) o).b,Xf,o.below,fun _ _ q=> ?_⟩
  cases q
  exact h7.opn hT Xf
theorem yJ {T:List Nd} {k b:List UInt8} {c:Option (List UInt8×List UInt8)} (h:lI T k b c):(⟨(hdL c).toArray⟩:ByteArray).toList.isEmpty=c.isNone:=by
 cases c with
 |none=>rw[ByteArray.toList_eq];rfl
 |some x=>obtain⟨hd,v⟩:=x;obtain⟨z,_,_,h3,_⟩:=h;exact head_ne h3
end
structure TrI (a d l:Int) (T:List Nd) (Q:List (List UInt8)) (K:Nat→List UInt8) (c:Nat→Option (List UInt8×List UInt8)):Prop where
 k0:(K 0).length=32
 ok:∀q,q<(au a d l).toNat→iZ a.toNat (av a d l).toNat T (fun q=>Q.getD q []) K c q
theorem Geo.nn {a d l:Int} (g:Geo a d l):∃x y:Nat,a=x∧d=y∧2≤x∧x≤4∧1≤y∧y≤3∧av a d l=(ndN x y:Int)∧ay a d l=((x ^ y:Nat):Int)∧au a d l=((x*ndN x y+1:Nat):Int)∧1≤ndN x y∧x*ndN x y+1≤85:=by
 obtain⟨x,y,rfl,rfl,h1,h2,h3,h4⟩:=dz g.r
 have e:∀y,ndN x y+x ^ y=x*ndN x y+1:=fun y=>by
  induction y with
  |zero=>rfl
  |succ y ih=>
   show ndN x y+x ^ y+x ^ (y+1)=x*(ndN x y+x ^ y)+1
   rw[Nat.mul_add,Nat.pow_succ,Nat.mul_comm (x ^ y) x]
   omega
 have e1:av (x:Int) (y:Int) l=(ndN x y:Int):=by unfold av;rw[if_pos g.r];rfl
 have e2:ay (x:Int) (y:Int) l=((x ^ y:Nat):Int):=by unfold ay;rw[if_pos g.r];rfl
 refine⟨x,y,rfl,rfl,h1,h2,h3,h4,e1,e2,?_,KI Xf h3,?_⟩
 · have :=e y
   unfold au
   rw[e1,e2]
   omega
 · have :=Fq h1 h2 h3 h4
   have :=e y
   unfold pgN at *
   omega
end
end Go.Proofs.YtipdlnejmcmbbaaGreatDoor
