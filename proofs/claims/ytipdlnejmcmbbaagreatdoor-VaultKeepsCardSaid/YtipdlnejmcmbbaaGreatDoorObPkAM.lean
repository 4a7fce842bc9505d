/- Own texts, one behind the other. No condition. -/
import Derived.Test.YtipdlnejmcmbbaaGreatDoorObPkAL
import Derived.Shelf.Small.Bits
import Derived.Shelf.Small.Wraps
import Derived.Shelf.Utf8.RuneCount
import Derived.Shelf.Strconv.Itoa0
import Derived.Shelf.Strconv.Itoa1
import Derived.Shelf.LaysM
import Derived.Shelf.Strconv.Itoa2
import Derived.Shelf.Strconv.Itoa3
import Derived.Shelf.Strings.Search1
import Derived.Shelf.Strings.Search2
import Derived.Shelf.Strings.Search3
import Derived.Shelf.Strings.Count
import Derived.Shelf.Strings.Shaped
import Derived.Shelf.Sort.Plain
import Derived.Shelf.Strings.Split
import Derived.Shelf.Strings.SplitShaped
import Derived.Shelf.Unicode.Decode
import Derived.Shelf.Strings.RuneCount
import Derived.Shelf.Strings.Explode
import Derived.Shelf.Bits.Mul64
import Derived.Shelf.Unicode.DecodeSlow
import Derived.Shelf.Unicode.DecodeAny
import Derived.Shelf.Slices.Turned
import Derived.Shelf.Slices.Reverse
import Derived.Ground.Names2Prog
import Derived.Shelf.Slices.Clone
import Derived.Shelf.Slices.CompactS
import Derived.Shelf.Slices.SearchI
import Derived.Shelf.Slices.Cells
import Derived.Shelf.Slices.In.SortNone
import Derived.Shelf.Slices.Empties
import Derived.Shelf.Bytes.SlSearch0
import Derived.Ground.SlgnProg
import Derived.Shelf.SlicesE.Reverse
import Derived.Shelf.SlicesE.Compact
import Derived.Shelf.SlicesE.Clone
import Derived.Ground.SlgfProg
import Derived.Shelf.SlicesE.IndexFunc
import Derived.Shelf.SlicesE.DeleteFunc
import Derived.Shelf.Bytes.SlSmallAll
import Derived.Shelf.Bytes.SlEqualAll
import Derived.Shelf.Bytes.Small
import Derived.RangeFuncNested
import Derived.RangeFuncBound
import Derived.RangeFuncCalls
import Derived.RangeFuncLeaves
import Derived.Shelf.Abstract
import Derived.Shelf.RegionOpen
import Derived.OwnWalkIn
import Derived.TacticsInMore
import Derived.LoopNIn
import Derived.LoopIn
set_option linter.unusedVariables false
set_option maxRecDepth 100000
set_option maxHeartbeats 8000000
set_option linter.unusedSimpArgs false
namespace Go.Proofs
section
open YtipdlnejmcmbbaaGreatDoor (Xc Xd Xe Xf Xg Xh)
open Go.Shelf
def Tryz.Wt:Go.Shelf.Ren:=⟨fun|219=>330|217=>345|225=>346|224=>347|267=>348|266=>364|314=>365|n=>n,fun|9=>9|3=>3|4=>4|5=>5|46=>180|146=>403|51=>267|n=>n,fun|1=>2|n=>n⟩
def Tryz.IZ:Go.Shelf.Ren:=⟨fun|143=>305|219=>330|217=>345|225=>346|224=>347|267=>348|266=>364|314=>365|n=>n,fun|9=>9|3=>3|4=>4|5=>5|46=>180|146=>403|51=>267|n=>n,fun|1=>2|n=>n⟩
theorem Tryz.TN:Go.Proofs.Lays.n143 Tryz.prog Tryz.IZ:={
 mixed:=by kernel_rfl
 f143:=Tryz.func305.trans Xc
 f217:=Tryz.func345.trans Xc
 f219:=Tryz.func330.trans Xc
 f224:=Tryz.func347.trans Xc
 f225:=Tryz.func346.trans Xc
 f266:=Tryz.func364.trans Xc
 f267:=Tryz.func348.trans Xc
 f314:=Tryz.func365.trans Xc
 t3:=Tryz.underlying3
 a3:=Tryz.isAgg3
 z3:=Tryz.sizeOf3
 v3:=Tryz.zeroValue3
 t4:=Tryz.underlying4
 a4:=Tryz.isAgg4
 z4:=Tryz.sizeOf4
 v4:=Tryz.zeroValue4
 t5:=Tryz.underlying5
 a5:=Tryz.isAgg5
 z5:=Tryz.sizeOf5
 v5:=Tryz.zeroValue5
 t9:=Tryz.underlying9
 a9:=Tryz.isAgg9
 z9:=Tryz.sizeOf9
 v9:=Tryz.zeroValue9
 t46:=Tryz.underlying180
 a46:=Tryz.isAgg180
 z46:=Tryz.sizeOf180
 v46:=Tryz.zeroValue180
 t51:=Tryz.underlying267
 a51:=Tryz.isAgg267
 z51:=Tryz.sizeOf267
 v51:=Tryz.zeroValue267
 t146:=Tryz.underlying403
 a146:=Tryz.isAgg403
 z146:=Tryz.sizeOf403
 v146:=Tryz.zeroValue403
 g1:=by kernel_rfl}
open Go.RowKit Go.Lib in
theorem Tryz.strings_Index_one (s:ByteArray) (c:UInt8) (w:World):
 Calls Tryz.prog 305 #[.string s,.string ⟨#[c]⟩] w fun e w'=>e= .returned (.int .i64 (Lib.indexByte s.data.toList c))∧w'=w:=Any.strings_Index_one Tryz.TN s c w
def Tryz.EX:Go.Shelf.Ren:=⟨fun|219=>330|217=>345|225=>346|224=>347|267=>348|266=>364|314=>365|n=>n,fun|9=>9|3=>3|4=>4|5=>5|46=>180|146=>403|51=>267|n=>n,fun|1=>2|n=>n⟩
theorem Tryz.QM:Go.Proofs.LaysM.n219 Tryz.prog Tryz.EX:={
 mixed:=by kernel_rfl
 f217:=Tryz.func345.trans Xc
 f219:=Tryz.func330.trans Xc
 f224:=Tryz.func347.trans Xc
 f225:=Tryz.func346.trans Xc
 f266:=Tryz.func364.trans Xc
 f267:=Tryz.func348.trans Xc
 f314:=Tryz.func365.trans Xc
 t3:=Tryz.underlying3
 a3:=Tryz.isAgg3
 z3:=Tryz.sizeOf3
 v3:=Tryz.zeroValue3
 t4:=Tryz.underlying4
 a4:=Tryz.isAgg4
 z4:=Tryz.sizeOf4
 v4:=Tryz.zeroValue4
 t5:=Tryz.underlying5
 a5:=Tryz.isAgg5
 z5:=Tryz.sizeOf5
 v5:=Tryz.zeroValue5
 t9:=Tryz.underlying9
 a9:=Tryz.isAgg9
 z9:=Tryz.sizeOf9
 v9:=Tryz.zeroValue9
 t46:=Tryz.underlying180
 a46:=Tryz.isAgg180
 z46:=Tryz.sizeOf180
 v46:=Tryz.zeroValue180
 t51:=Tryz.underlying267
 a51:=Tryz.isAgg267
 z51:=Tryz.sizeOf267
 v51:=Tryz.zeroValue267
 t146:=Tryz.underlying403
 a146:=Tryz.isAgg403
 z146:=Tryz.sizeOf403
 v146:=Tryz.zeroValue403
 g1:=by kernel_rfl
 i3:=by kernel_rfl
 i4:=by kernel_rfl
 i5:=by kernel_rfl
 i9:=by kernel_rfl
 i46:=by kernel_rfl
 i51:=by kernel_rfl
 i146:=by kernel_rfl
 m1:=by kernel_rfl
 s1_3:=fun w h=>Go.Proofs.cell_of_shapedOpen_int (zero:=#[.int .i64 0]) (t:=3) h (of_decide_eq_true Xe) Xe rfl Xe Xe Tryz.underlying3}
def Tryz.Wq:Go.Shelf.Ren:=⟨fun|221=>341|268=>358|138=>359|143=>305|195=>373|197=>304|218=>374|219=>330|260=>329|217=>345|225=>346|224=>347|267=>348|266=>364|314=>365|n=>n,fun|9=>9|3=>3|31=>51|4=>4|0=>0|105=>347|21=>21|5=>5|46=>180|119=>350|139=>353|138=>352|146=>403|51=>267|n=>n,fun|1=>2|3=>0|4=>1|n=>n⟩
def Tryz.Jh:Go.Shelf.Ren:=⟨fun|146=>323|221=>341|268=>358|138=>359|143=>305|195=>373|197=>304|218=>374|219=>330|260=>329|217=>345|225=>346|224=>347|267=>348|266=>364|314=>365|n=>n,fun|9=>9|31=>51|3=>3|4=>4|0=>0|105=>347|21=>21|5=>5|46=>180|119=>350|139=>353|138=>352|146=>403|51=>267|n=>n,fun|1=>2|3=>0|4=>1|n=>n⟩
theorem Tryz.UC:Go.Proofs.Lays.n146 Tryz.prog Tryz.Jh:={
 mixed:=by kernel_rfl
 f138:=Tryz.func359.trans Xc
 f143:=Tryz.func305.trans Xc
 f146:=Tryz.func323.trans Xc
 f195:=Tryz.func373.trans Xc
 f197:=Tryz.func304.trans Xc
 f217:=Tryz.func345.trans Xc
 f218:=Tryz.func374.trans Xc
 f219:=Tryz.func330.trans Xc
 f221:=Tryz.func341.trans Xc
 f224:=Tryz.func347.trans Xc
 f225:=Tryz.func346.trans Xc
 f260:=Tryz.func329.trans Xc
 f266:=Tryz.func364.trans Xc
 f267:=Tryz.func348.trans Xc
 f268:=Tryz.func358.trans Xc
 f314:=Tryz.func365.trans Xc
 t0:=Tryz.underlying0
 a0:=Tryz.isAgg0
 z0:=Tryz.sizeOf0
 v0:=Tryz.zeroValue0
 t3:=Tryz.underlying3
 a3:=Tryz.isAgg3
 z3:=Tryz.sizeOf3
 v3:=Tryz.zeroValue3
 t4:=Tryz.underlying4
 a4:=Tryz.isAgg4
 z4:=Tryz.sizeOf4
 v4:=Tryz.zeroValue4
 t5:=Tryz.underlying5
 a5:=Tryz.isAgg5
 z5:=Tryz.sizeOf5
 v5:=Tryz.zeroValue5
 t9:=Tryz.underlying9
 a9:=Tryz.isAgg9
 z9:=Tryz.sizeOf9
 v9:=Tryz.zeroValue9
 t21:=Tryz.underlying21
 a21:=Tryz.isAgg21
 z21:=Tryz.sizeOf21
 v21:=Tryz.zeroValue21
 t31:=Tryz.underlying51
 a31:=Tryz.isAgg51
 z31:=Tryz.sizeOf51
 v31:=Tryz.zeroValue51
 t46:=Tryz.underlying180
 a46:=Tryz.isAgg180
 z46:=Tryz.sizeOf180
 v46:=Tryz.zeroValue180
 t51:=Tryz.underlying267
 a51:=Tryz.isAgg267
 z51:=Tryz.sizeOf267
 v51:=Tryz.zeroValue267
 t105:=Tryz.underlying347
 a105:=Tryz.isAgg347
 z105:=Tryz.sizeOf347
 v105:=Tryz.zeroValue347
 t119:=Tryz.underlying350
 a119:=Tryz.isAgg350
 z119:=Tryz.sizeOf350
 t138:=Tryz.underlying352
 a138:=Tryz.isAgg352
 z138:=Tryz.sizeOf352
 v138:=Tryz.zeroValue352
 t139:=Tryz.underlying353
 a139:=Tryz.isAgg353
 z139:=Tryz.sizeOf353
 v139:=Tryz.zeroValue353
 t146:=Tryz.underlying403
 a146:=Tryz.isAgg403
 z146:=Tryz.sizeOf403
 v146:=Tryz.zeroValue403
 g1:=by kernel_rfl
 g3:=by kernel_rfl
 g4:=by kernel_rfl}
open Go.RowKit Go.Lib in
theorem Tryz.strings_Split (s sep:ByteArray) (m:Int) (w:World) (hs:s.size<4294967281) (hm:w.cell? ⟨2,0,none⟩=some (.int .i64 m)) (h1:1≤sep.size):
 Calls Tryz.prog 323 #[.string s,.string sep] w fun e w'=>
  e= .returned (.slice (some ⟨w.heap.size,0,none⟩) (Lib.countB s sep+1) (Lib.countB s sep+1))∧w'=w.alloc (.cells ((Lib.splitB sep 0 (Lib.countB s sep) s).map Value.string).toArray 9):=Any.strings_Split Tryz.UC Xe s sep m w hs hm h1
def Tryz.Wu:Go.Shelf.Ren:=⟨fun|197=>304|260=>329|n=>n,fun|9=>9|21=>21|3=>3|4=>4|5=>5|105=>347|119=>350|0=>0|46=>180|139=>353|138=>352|n=>n,fun|3=>0|4=>1|n=>n⟩
def Tryz.wU:Go.Shelf.Ren:=⟨fun|260=>329|n=>n,fun|9=>9|21=>21|3=>3|4=>4|5=>5|119=>350|0=>0|46=>180|139=>353|138=>352|n=>n,fun|3=>0|4=>1|n=>n⟩
theorem Tryz.UY:Go.Proofs.Lays.n260 Tryz.prog Tryz.wU:={
 mixed:=by kernel_rfl
 f260:=Tryz.func329.trans Xc
 t0:=Tryz.underlying0
 a0:=Tryz.isAgg0
 z0:=Tryz.sizeOf0
 v0:=Tryz.zeroValue0
 t3:=Tryz.underlying3
 a3:=Tryz.isAgg3
 z3:=Tryz.sizeOf3
 v3:=Tryz.zeroValue3
 t4:=Tryz.underlying4
 a4:=Tryz.isAgg4
 z4:=Tryz.sizeOf4
 v4:=Tryz.zeroValue4
 t5:=Tryz.underlying5
 a5:=Tryz.isAgg5
 z5:=Tryz.sizeOf5
 v5:=Tryz.zeroValue5
 t9:=Tryz.underlying9
 a9:=Tryz.isAgg9
 z9:=Tryz.sizeOf9
 v9:=Tryz.zeroValue9
 t21:=Tryz.underlying21
 a21:=Tryz.isAgg21
 z21:=Tryz.sizeOf21
 v21:=Tryz.zeroValue21
 t46:=Tryz.underlying180
 a46:=Tryz.isAgg180
 z46:=Tryz.sizeOf180
 v46:=Tryz.zeroValue180
 t119:=Tryz.underlying350
 a119:=Tryz.isAgg350
 z119:=Tryz.sizeOf350
 t138:=Tryz.underlying352
 a138:=Tryz.isAgg352
 z138:=Tryz.sizeOf352
 v138:=Tryz.zeroValue352
 t139:=Tryz.underlying353
 a139:=Tryz.isAgg353
 z139:=Tryz.sizeOf353
 v139:=Tryz.zeroValue353
 g3:=by kernel_rfl
 g4:=by kernel_rfl}
def Tryz.Io:Go.Shelf.Ren:=⟨fun|109=>67|n=>n,fun|31=>51|9=>9|3=>3|0=>0|4=>4|n=>n,fun|n=>n⟩
theorem Tryz.JQ:Go.Proofs.Lays.n109 Tryz.prog Tryz.Io:={
 mixed:=by kernel_rfl
 f109:=Tryz.func67.trans Xc
 t0:=Tryz.underlying0
 a0:=Tryz.isAgg0
 z0:=Tryz.sizeOf0
 v0:=Tryz.zeroValue0
 t3:=Tryz.underlying3
 a3:=Tryz.isAgg3
 z3:=Tryz.sizeOf3
 v3:=Tryz.zeroValue3
 t4:=Tryz.underlying4
 a4:=Tryz.isAgg4
 z4:=Tryz.sizeOf4
 v4:=Tryz.zeroValue4
 t9:=Tryz.underlying9
 a9:=Tryz.isAgg9
 z9:=Tryz.sizeOf9
 v9:=Tryz.zeroValue9
 t31:=Tryz.underlying51
 a31:=Tryz.isAgg51
 z31:=Tryz.sizeOf51
 v31:=Tryz.zeroValue51}
open Go.Lib in
theorem Tryz.slices_Index_string (b off n c:Nat) (zs:List ByteArray) (x:ByteArray) (w:World) (hz:n≤zs.length) (hbig:n≤9223372036854775807) (hc:∀j,j<zs.length→w.cell? ⟨b,off+j,none⟩=some (.string (zs.getD j ByteArray.empty))):
 Calls Tryz.prog 67 #[.slice (some ⟨b,off,none⟩) n c,.string x] w fun e w'=>e= .returned (.int .i64 (Lib.idxOfS (zs.take n) x))∧w'=w:=Any.slices_Index_string Tryz.JQ b off n c zs x w hz hbig hc
open Go.Lib in
theorem Tryz.slices_Index_string_empty (a:Option Addr) (c:Nat) (x:ByteArray) (w:World):
 Calls Tryz.prog 67 #[.slice a 0 c,.string x] w fun e w'=>e= .returned (.int .i64 (Lib.idxOfS [] x))∧w'=w:=Any.slices_Index_string_empty Tryz.JQ a c x w
def Tryz.Ew:Go.Shelf.Ren:=⟨fun|16=>69|n=>n,fun|24=>51|9=>9|4=>4|n=>n,fun|n=>n⟩
theorem Tryz.uI:Go.Proofs.Lays2.n16 Tryz.prog Tryz.Ew:={
 mixed:=by kernel_rfl
 f16:=Tryz.func69.trans Xc
 t4:=Tryz.underlying4
 a4:=Tryz.isAgg4
 z4:=Tryz.sizeOf4
 v4:=Tryz.zeroValue4
 t9:=Tryz.underlying9
 a9:=Tryz.isAgg9
 z9:=Tryz.sizeOf9
 v9:=Tryz.zeroValue9
 t24:=Tryz.underlying51
 a24:=Tryz.isAgg51
 z24:=Tryz.sizeOf51
 v24:=Tryz.zeroValue51
 i9:=by kernel_rfl}
open Go.RowKit Go.Lib in
theorem Tryz.slices_Clone_string (b off n c:Nat) (zs:List ByteArray) (w:World) (hz:n≤zs.length) (hbig:n*16≤140737488355328) (hc:∀j,j<zs.length→w.cell? ⟨b,off+j,none⟩=some (.string (zs.getD j ByteArray.empty))):
 Calls Tryz.prog 69 #[.slice (some ⟨b,off,none⟩) n c] w fun e w'=>∃v',e= .returned v'∧w'.ownsRow w.heap.size 9 1 v' n ((zs.take n).map (Value.string))∧v'≠ .slice none 0 0∧Below w.heap.size w w':=Any.slices_Clone_string Tryz.uI b off n c zs w hz hbig hc
open Go.RowKit Go.Lib in
theorem Tryz.slices_Clone_string_nil (n c:Nat) (w:World):
 Calls Tryz.prog 69 #[.slice none n c] w fun e w'=>e= .returned (.slice none 0 0)∧w'=w:=Any.slices_Clone_string_nil Tryz.uI n c w
open Go.RowKit Go.Lib in
theorem Tryz.slices_Clone_string_zero (a:Addr) (c:Nat) (w:World):
 Calls Tryz.prog 69 #[.slice (some a) 0 c] w fun e w'=>∃v',e= .returned v'∧w'.ownsRow w.heap.size 9 1 v' 0 []∧v'≠ .slice none 0 0∧Below w.heap.size w w':=Any.slices_Clone_string_zero Tryz.uI a c w
def Tryz.Iy:Go.Shelf.Ren:=⟨fun|194=>73|n=>n,fun|31=>51|9=>9|3=>3|4=>4|0=>0|n=>n,fun|n=>n⟩
theorem Tryz.JV:Go.Proofs.Lays.n194 Tryz.prog Tryz.Iy:={
 mixed:=by kernel_rfl
 f194:=Tryz.func73.trans Xc
 t0:=Tryz.underlying0
 a0:=Tryz.isAgg0
 z0:=Tryz.sizeOf0
 v0:=Tryz.zeroValue0
 t3:=Tryz.underlying3
 a3:=Tryz.isAgg3
 z3:=Tryz.sizeOf3
 v3:=Tryz.zeroValue3
 t4:=Tryz.underlying4
 a4:=Tryz.isAgg4
 z4:=Tryz.sizeOf4
 v4:=Tryz.zeroValue4
 t9:=Tryz.underlying9
 a9:=Tryz.isAgg9
 z9:=Tryz.sizeOf9
 v9:=Tryz.zeroValue9
 t31:=Tryz.underlying51
 a31:=Tryz.isAgg51
 z31:=Tryz.sizeOf51
 v31:=Tryz.zeroValue51}
open Go.RowKit Go.Lib Go.Sort in
theorem Tryz.slices_Compact_string (blk off cap:Nat) (zs:List (List UInt8)) (w:World) (hH:Holds encStr w blk off zs.toArray) (hsz:zs.length≤9223372036854775807) (hcap:zs.length≤cap):
 Calls Tryz.prog 73 #[.slice (some ⟨blk,off,none⟩) zs.length cap] w fun e w'=>e= .returned (.slice (some ⟨blk,off,none⟩) (Lib.compact zs).length cap)∧∃q,w'=putRow encStr (Sort.ahead w q) blk off (Lib.compact zs++List.replicate (zs.length - (Lib.compact zs).length) []).toArray:=Any.slices_Compact_string Tryz.JV blk off cap zs w hH hsz hcap
open Go.RowKit Go.Lib Go.Sort in
theorem Tryz.slices_Compact_string_empty (a:Option Addr) (cap:Nat) (w:World):
 Calls Tryz.prog 73 #[.slice a 0 cap] w fun e w'=>e= .returned (.slice a 0 cap)∧w'=w:=Any.slices_Compact_string_empty Tryz.JV a cap w
def Tryz.Eb:Go.Shelf.Ren:=⟨fun|25=>186|31=>262|32=>265|37=>312|n=>n,fun|22=>85|3=>3|4=>4|40=>180|0=>0|n=>n,fun|n=>n⟩
theorem Tryz.Pj:Go.Proofs.Lays2.n25 Tryz.prog Tryz.Eb:={
 mixed:=by kernel_rfl
 f25:=Tryz.func186.trans Xc
 f31:=Tryz.func262.trans Xc
 f32:=Tryz.func265.trans Xc
 f37:=Tryz.func312.trans Xc
 t0:=Tryz.underlying0
 a0:=Tryz.isAgg0
 z0:=Tryz.sizeOf0
 v0:=Tryz.zeroValue0
 t3:=Tryz.underlying3
 a3:=Tryz.isAgg3
 z3:=Tryz.sizeOf3
 v3:=Tryz.zeroValue3
 t4:=Tryz.underlying4
 a4:=Tryz.isAgg4
 z4:=Tryz.sizeOf4
 v4:=Tryz.zeroValue4
 t22:=Tryz.underlying85
 a22:=Tryz.isAgg85
 z22:=Tryz.sizeOf85
 v22:=Tryz.zeroValue85
 t40:=Tryz.underlying180
 a40:=Tryz.isAgg180
 z40:=Tryz.sizeOf180
 v40:=Tryz.zeroValue180}
open Go.RowKit Go.Lib in
theorem Tryz.slices_BinarySearch_int (b off n c:Nat) (zs:List Int) (x:Int) (w:World) (hz:n≤zs.length) (hbig:n<4611686018427387904) (hc:∀j,j<zs.length→w.cell? ⟨b,off+j,none⟩=some (.int .i64 (zs.getD j 0))) (hs:(zs.take n).Pairwise (·≤·)):
 Calls Tryz.prog 186 #[.slice (some ⟨b,off,none⟩) n c,.int .i64 x] w fun e w'=>e= .returned (.tuple #[.int .i64 ((zs.take n).countP (· <x):Nat),.bool ((zs.take n).contains x)])∧∃q,w'=w.drewN q:=Any.slices_BinarySearch_int Tryz.Pj b off n c zs x w hz hbig hc hs
end
end Go.Proofs
namespace Go.Proofs.YtipdlnejmcmbbaaGreatDoor
section
open Go.RowKit Go.Shelf
attribute [local go_sem] Oper.semAt_some
def Bv (w:World) (b:Nat):Nat:=match w.cell? ⟨b,0,none⟩ with
 |some (.string t)=>t.size
 |_=>0
theorem zM {w:World} {b:Nat} {t:ByteArray} (h:w.cell? ⟨b,0,none⟩=some (.string t)):Bv w b=t.size:=by unfold Bv;rw[h]
def K3 (Bs Bp Bn:Nat) (A A':World):Prop:=∀b,b=Bs∨b=Bp∨b=Bn→A'.heap[b]?=A.heap[b]?
theorem K3.trans {Bs Bp Bn:Nat} {A B C:World} (h:K3 Bs Bp Bn A B) (k:K3 Bs Bp Bn B C):K3 Bs Bp Bn A C:=fun b hb=>(k b hb).trans (h b hb)
theorem NQ (l:List UInt8) (s:ByteArray) (hs:s=⟨l.toArray⟩) (k:Nat):s.extract 0 k=⟨(l.take k).toArray⟩:=by
 subst hs
 apply ByteArray.ext
 simp[ByteArray.extract,ByteArray.copySlice]
theorem bC0 {w:World} {b:Nat} {t:TypeId} {v:Value} (h:Blk w b t [v]):w.cell? ⟨b,0,none⟩=some v:=(h.cell 0).trans rfl
theorem PN (n:Nat) (hn:1≤n) (q Bs Bp Bn:Nat) (hsp:Bs≠Bp) (hsn:Bs≠Bn) (l:List UInt8) (hl:l.length≤100000) (J Jx:List (List UInt8)→World→Prop)
 (hJs:∀s A v,J s A→Bs<A.heap.size→J s (A.setCell ⟨Bs,0,none⟩ v))
 (hY:∀pre x W,J pre W→(∃rest,pre++x::rest=pcL l)→YieldAt Fence.wide (n - 1) Tryz.prog q #[ak x] W fun e W'=>
  (e= .returned (.bool true)∧J (pre++ [x]) W'∧K3 Bs Bp Bn W W')∨(e= .returned (.bool false)∧Jx (pre++ [x]) W'))
 (W:World) (hBs:Blk W Bs 9 [ak l]) (hBp:Blk W Bp 9 [ak [46]]) (hBn:Blk W Bn 3 [.int .i64 0]) (h0:J [] W):
 CallsIn Fence.wide n Tryz.prog 303 #[.func (.yield q) #[] #[],.pointer (some ⟨Bp,0,none⟩),.pointer (some ⟨Bs,0,none⟩),.pointer (some ⟨Bn,0,none⟩)] W fun e W'=>(∃v,e= .returned v)∧
  (J (pcL l) W'∨∃pre,(∃rest,pre++rest=pcL l)∧Jx pre W'):=by
 refine callsIn_of_wp Tryz.func303 rfl trivial ?_ rfl
 simp only[Tryz.ntmps303,List.size_toArray,List.length_cons,List.length_nil,Nat.reduceAdd,Nat.reduceSub,Array.replicate_succ,Array.replicate_zero,List.push_toArray,List.append_toArray,List.nil_append,List.cons_append]
 have cp:W.cell? ⟨Bp,0,none⟩=some (.string ⟨#[46]⟩):=bC0 hBp
 have HJS:=Xh hJs;have HYY:=Xh hY
 have HL:Hid (l.length≤100000):=hl
 clear hJs hY hl
 gi_wp2
 clear cp
 gi_loopw [7] (fun i wr=>∃(pre:List (List UInt8)) (m:List UInt8),pre++pcL m=pcL l∧m.length≤100000∧Blk wr Bs 9 [ak m]∧Blk wr Bp 9 [ak [46]]∧Blk wr Bn 3 [.int .i64 0]∧J pre wr) (fun _ wr=>Bv wr Bs)
 case atStart=>exact⟨[],l,rfl,HL.out,hBs,hBp,hBn,h0⟩
 case round=>
  obtain⟨pre,m,hpm,hm,bs,bp,bn,hJ⟩:=hrel
  have BS:=Xh bs;have BP:=Xh bp;have BN:=Xh bn;have HJ:=Xh hJ;have HPM:=Xh hpm
  clear bs bp bn hJ hpm
  obtain⟨t,ht⟩:∃t:ByteArray,t=⟨m.toArray⟩:=⟨_,rfl⟩
  have htz:t.size=m.length:=by rw[ht];exact kI m
  have htd:t.data.toList=m:=by rw[ht]
  have cs:wr.cell? ⟨Bs,0,none⟩=some (.string t):=by rw[ht];exact bC0 BS.out
  have cp:wr.cell? ⟨Bp,0,none⟩=some (.string ⟨#[46]⟩):=bC0 BP.out
  have cn:wr.cell? ⟨Bn,0,none⟩=some (.int .i64 0):=bC0 BN.out
  have hix:=Tryz.strings_Index_one t 46 wr
  rw[htd] at hix
  have HT:=Xh ht;have HTZ:=Xh htz
  have hts:t.size≤100000:=by omega
  clear ht htz htd
  rcases oq m _ rfl with⟨hi,hp1⟩| ⟨k,hi,hk,hp1⟩
  · rw[hi] at hix
    have HIX:=Xh hix
    clear hix hi
    have hfin:pre++ [m]=pcL l:=by rw[←hp1];exact HPM.out
    obtain⟨fn,tmps,assign,body,hy,hR⟩:=HYY.out pre m wr HJ.out ⟨[],hfin⟩
    rw[hfin] at hR
    have hy:(Instr.yield q #[.string t]).run Tryz.prog wr= .ok (.round q fn tmps assign body) wr:=by rw[HT.out];exact hy
    have HRR:=Xh hR
    clear hfin hR hp1
    gi_wp2_with (refine⟨trivial,?_⟩;gi_at_call 305;refine (callsIn_wide.2 HIX.out).mono ?_;rintro e w6 ⟨rfl,rfl⟩)
    refine HRR.out.mono ?_
    rintro e W3 (⟨rfl,hJ3,hk3⟩| ⟨rfl,hJx3⟩)
    · gi_wp2
      go_end0
      exact⟨⟨_,rfl⟩,.inl hJ3⟩
    · gi_wp2
      go_end0
      exact⟨⟨_,rfl⟩,.inr ⟨_,⟨[],List.append_nil _⟩,hJx3⟩⟩
  · rw[hi] at hix
    have HIX:=Xh hix
    clear hix hi
    have hfin:pre++m.take k::pcL (m.drop (k+1))=pcL l:=by rw[←hp1];exact HPM.out
    obtain⟨fn,tmps,assign,body,hy,hR⟩:=HYY.out pre (m.take k) wr HJ.out ⟨_,hfin⟩
    have hy:(Instr.yield q #[.string (t.extract 0 k)]).run Tryz.prog wr= .ok (.round q fn tmps assign body) wr:=by rw[NQ m t HT.out k];exact hy
    have HRR:=Xh hR
    have HFI:=Xh hfin
    have HDR:=Xh (Dq m t HT.out (k+1))
    have hkz:k<t.size:=by have :=HTZ.out;omega
    clear hfin hR hp1
    gi_wp2_with (refine⟨trivial,?_⟩;gi_at_call 305;refine (callsIn_wide.2 HIX.out).mono ?_;rintro e w6 ⟨rfl,rfl⟩)
    refine HRR.out.mono ?_
    rintro e W3 (⟨rfl,hJ3,hk3⟩| ⟨rfl,hJx3⟩)
    · have bs3:Blk W3 Bs 9 [ak m]:=(hk3 Bs (.inl rfl)).trans BS.out
      have bp3:Blk W3 Bp 9 [ak [46]]:=(hk3 Bp (.inr (.inl rfl))).trans BP.out
      have bn3:Blk W3 Bn 3 [.int .i64 0]:=(hk3 Bn (.inr (.inr rfl))).trans BN.out
      have cs3:W3.cell? ⟨Bs,0,none⟩=some (.string t):=by rw[HT.out];exact bC0 bs3
      have cp3:W3.cell? ⟨Bp,0,none⟩=some (.string ⟨#[46]⟩):=bC0 bp3
      have fs3:=bs3.free 0
      have ls3:=bs3.lt
      have HJ3:=Xh hJ3
      have BS3:=Xh bs3;have BP3:=Xh bp3;have BN3:=Xh bn3
      clear hk3 bs3 bp3 bn3 hJ3 cs cp cn hy
      gi_wp2
      have bs4:=BS3.out.set 0 (.string (t.extract (k+1) t.size))
      rw[HDR.out] at bs4 ⊢
      have bs4:Blk (W3.setCell ⟨Bs,0,none⟩ (.string ⟨(m.drop (k+1)).toArray⟩)) Bs 9 [ak (m.drop (k+1))]:=bs4
      refine⟨⟨pre++ [m.take k],m.drop (k+1),?_,?_,bs4,BP3.out.far (p:=⟨Bs,0,none⟩) (Ne.symm hsp) _,BN3.out.far (p:=⟨Bs,0,none⟩) (Ne.symm hsn) _,HJS.out _ _ _ HJ3.out ls3⟩,?_⟩
      · rw[List.append_assoc];exact HFI.out
      · rw[List.length_drop];omega
      · rw[zM (bC0 BS.out),zM (bC0 bs4),kI,kI,List.length_drop]
        omega
    · gi_wp2
      refine bodyPost_ret (results_none rfl _ _ _) rfl ?_
      exact⟨⟨_,rfl⟩,.inr ⟨_,⟨pcL (m.drop (k+1)),by rw[List.append_assoc];exact HFI.out⟩,hJx3⟩⟩
end
section
open Go.RowKit Go.Shelf
attribute [local go_sem] Oper.semAt_some
def Tw {α:Type} (Kp:World→World→Prop) (I Ix:List α→World→Prop) (xs:List α) (W:World):Exit→Act→World→Prop
 | .normal,_,W'=>KeepsOthers W W'∧Kp W W'∧I xs W'
 | .ret,_,W'=>KeepsOthers W W'∧Ix xs W'
 |_,_,_=>False
structure Laid (L:Nat) (r:Loop) (W:World):Prop where
 loop:W.heap[L+1]?=some (.loop r)
 defer:W.heap[L]?=some (.deferred (some []))
theorem Laid.put {L:Nat} {r r':Loop} {W:World} (h:Laid L r W):Laid L r' (W.putObj (L+1) (.loop r')):=
 ⟨World.putObj_heap_same (Array.getElem?_eq_some_iff.1 h.loop).1,(World.putObj_heap_other Xf).trans h.defer⟩
theorem Laid.keep {L:Nat} {r:Loop} {W W':World} (h:Laid L r W) (k:KeepsOthers W W'):Laid L r W':=⟨k.same _ _ h.loop rfl,k.same _ _ h.defer rfl⟩
theorem Laid.set {L B:Nat} {r:Loop} {W:World} (h:Laid L r W) (v:Value):Laid L r (W.setCell ⟨B,0,none⟩ v):=h.keep (KeepsOthers.setCell _ _ _)
theorem OJ {P:Program} {α:Type} {g:Operand} {p:Tmp} {assign body:Code} {Q:Exit→Act→World→Prop} {a:Act} {w:World} {n:Nat} (h1:1≤n)
 {gf:Nat} {lb:Array Value} (hg:a.eval g= .func (.func gf) #[] lb) (eg:∀args w,(callFunc gf args).run P w= .ok (.enter gf args) w)
 (enc:α→Value) (Kp:World→World→Prop) (hKt:∀A B C,Kp A B→Kp B C→Kp A C) (hKp:∀W l o,w.heap.size≤l→Kp W (W.putObj l o))
 (S Sp:List α→Prop) (B:Nat) (ok:List α→α→Prop)
 (hseq:∀(q:Nat) (J Jx:List α→World→Prop) (W:World),Gr w W→(∀s A v,J s A→B<A.heap.size→J s (A.setCell ⟨B,0,none⟩ v))→
  (∀pre x A,J pre A→ok pre x→YieldAt Fence.wide (n - 1 - 1) P q #[enc x] A fun e A'=>(e= .returned (.bool true)∧J (pre++ [x]) A'∧Kp A A')∨(e= .returned (.bool false)∧Jx (pre++ [x]) A'))→J [] W→
  CallsIn Fence.wide (n - 1) P gf (#[.func (.yield q) #[] #[]]++lb) W fun e W'=>(∃v,e= .returned v)∧((∃xs,S xs∧J xs W')∨∃pre,Sp pre∧Jx pre W'))
 (I Ix:List α→World→Prop) (hIa:∀s W o,I s W→I s (W.alloc o))
 (hIp:∀s W l o o',I s W→w.heap.size≤l→W.heap[l]?=some o→o.isCells=false→I s (W.putObj l o'))
 (hXp:∀s W l o o',Ix s W→w.heap.size≤l→W.heap[l]?=some o→o.isCells=false→Ix s (W.putObj l o'))
 (hIs:∀s W v,I s W→I s (W.setCell ⟨B,0,none⟩ v)) (h0:I [] w) (a₁:α→Act)
 (hassign:∀(q:Nat) (x:α) (W:World) (K:Act→World→Prop),K (a₁ x) W→
  assign.wpIn (Fence.wide.inRound q) (n - 1 - 1) P (Exit.then K (fun _ _ _=>False)) {tmps:=(#[p].zip #[enc x]).foldl (fun t (p,v)=>t.setIfInBounds p v) a.tmps,defers:=[]} W)
 (hbody:∀(q:Nat) (pre:List α) (x:α) (W:World),I pre W→ok pre x→body.wpIn (Fence.wide.inRound q) (n - 1 - 1) P (Tw Kp I Ix (pre++ [x]) W) (a₁ x) W)
 (hdone:∀(D:Nat) (xs:List α) (W:World),w.heap.size≤D→S xs→I xs W→W.heap[D]?=some (.deferred (some []))→Q .normal {a with defers:={target:= .collected D,args:=#[]}::a.defers} W)
 (hstop:∀(D:Nat) (pre:List α) (W:World),w.heap.size≤D→Sp pre→Ix pre W→W.heap[D]?=some (.deferred (some []))→Code.ret.wpIn Fence.wide n P Q {a with defers:={target:= .collected D,args:=#[]}::a.defers} W):
 (Code.rangeFunc g #[p] assign body).wpIn Fence.wide n P Q a w:=by
 refine wpIn_rangeFunc fun fn hfn=> ?_
 rw[show Fence.wide.round=none from rfl]
 obtain⟨L,hL⟩:∃L,L=w.heap.size:=⟨_,rfl⟩
 obtain⟨rc,hrc⟩:∃rc:LoopState→Option Code→Loop,rc=fun st pe=>{state:=st,pending:=pe,fn,tmps:=a.tmps,params:=#[p],assign,body,defers:=L}:=⟨_,rfl⟩
 obtain⟨W1,hW1⟩:∃W1,W1=(w.alloc (.deferred (some []))).alloc (.loop (rc .ready none)):=⟨_,rfl⟩
 have lay:Laid L (rc .ready none) W1:=by
  refine⟨?_,?_⟩
  · rw[hW1,hL]
    have :=World.alloc_heap_new (w.alloc (.deferred (some []))) (.loop (rc .ready none))
    rwa[World.size_alloc] at this
  · rw[hW1,hL]
    exact (Below.heap_alloc _ _ _ (by simp)).trans (World.alloc_heap_new w _)
 have gW1:Gr w W1:=by rw[hW1];exact (Gr.alloc w _).trans (Gr.alloc _ _)
 have rdy:(rc .ready none).state= .ready:=by rw[hrc]
 have call:=hseq (L+1) (fun pre W=>I pre W∧Laid L (rc .ready none) W) (fun pre W=>Ix pre W∧Laid L (rc .done (some .ret)) W) W1 gW1
  (fun s A v h _=>⟨hIs s A v h.1,h.2.set v⟩)
  (by
   rintro pre x A ⟨hi,hl⟩ hok
   have hy:=run_yield (P:=P) (args:=#[enc x]) hl.loop (by rw[hrc];rfl)
   rw[hrc] at hy
   refine⟨fn,_,assign,body,hy,roundIn_of_wpIn hfn (hassign _ x A _ ⟨_,run_beginRound hl.loop rdy,?_⟩)⟩
   obtain⟨A2,hA2⟩:∃A2,A2=A.putObj (L+1) (.loop {rc .ready none with state:= .busy}):=⟨_,rfl⟩
   have hl2:Laid L {rc .ready none with state:= .busy} A2:=by rw[hA2];exact hl.put
   have hk2:Kp A A2:=by rw[hA2];exact hKp _ _ _ Xf
   have hi2:I pre A2:=by rw[hA2];exact hIp _ _ _ _ _ hi Xf hl.loop rfl
   rw[←hA2]
   refine wpIn_mono (hbody _ pre x A2 hi2 hok) ?_
   rintro e a3 A3 hp
   cases e with
   |normal=>
    obtain⟨hk3,hkp3,hi3⟩:=hp
    have hl3:=hl2.keep hk3
    have hr:=run_endRound (P:=P) none hl3.loop
    refine⟨_,_,hr,.inl ⟨rfl,⟨hIp _ _ _ _ _ hi3 Xf hl3.loop rfl,?_⟩,hKt _ _ _ (hKt _ _ _ hk2 hkp3) (hKp _ _ _ Xf)⟩⟩
    have :=hl3.put (r':=rc .ready none)
    rw[hrc] at this ⊢
    exact this
   |ret=>
    obtain⟨hk3,hi3⟩:=hp
    have hl3:=hl2.keep hk3
    have hr:=run_endRound (P:=P) (some .ret) hl3.loop
    refine⟨_,_,hr,.inr ⟨rfl,hXp _ _ _ _ _ hi3 Xf hl3.loop rfl,?_⟩⟩
    have :=hl3.put (r':=rc .done (some .ret))
    rw[hrc] at this ⊢
    exact this
   |exit id=>exact hp.elim
   |goto t=>exact hp.elim
   |panic ch=>exact hp.elim
   |outgrown=>exact hp.elim)
  ⟨by rw[hW1];exact hIa _ _ _ (hIa _ _ _ h0),lay⟩
 refine⟨L+1,[{target:= .collected L,args:=#[]}],W1,{target:= .fn (.func gf) lb,args:=#[.func (.yield (L+1)) #[] #[]]},W1,gf,
  #[.func (.yield (L+1)) #[] #[]]++lb,W1,?_,?_,?_,?_,?_,?_⟩
 · rw[hW1,hrc,hL];exact run_enterLoop_outer _ _ _ _ _
 · simp only[resolve,hg]
   simp[go_sem]
 · exact fun _ _=>trivial
 · simp[invoke,go_sem,eg]
 · exact fun _=>h1
 · refine call.mono ?_
   rintro e W2 ⟨⟨v,rfl⟩,(⟨xs,hS,hi,hl⟩| ⟨pre,hSp,hx,hl⟩)⟩
   · refine⟨none,W2.putObj (L+1) (.loop {rc .ready none with state:= .exhausted}),?_,hdone L xs _ Xf hS (hIp _ _ _ _ _ hi Xf hl.loop rfl) ((World.putObj_heap_other Xf).trans hl.defer)⟩
     have :=run_endLoop (P:=P) hl.loop (by rw[hrc];simp)
     rw[hrc] at this ⊢
     exact this
   · refine⟨some .ret,W2.putObj (L+1) (.loop {rc .done (some .ret) with state:= .exhausted}),?_,hstop L pre _ Xf hSp (hXp _ _ _ _ _ hx Xf hl.loop rfl) ((World.putObj_heap_other Xf).trans hl.defer)⟩
     have :=run_endLoop (P:=P) hl.loop (by rw[hrc];simp)
     rw[hrc] at this ⊢
     exact this
end
end Go.Proofs.YtipdlnejmcmbbaaGreatDoor
