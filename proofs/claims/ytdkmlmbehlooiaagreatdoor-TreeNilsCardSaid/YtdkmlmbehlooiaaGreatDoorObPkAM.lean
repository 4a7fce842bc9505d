/- Own texts, one behind the other. No condition. -/
import Derived.Test.YtdkmlmbehlooiaaGreatDoorObPkAL
import Derived.Shelf.Unicode.ValidAny
import Derived.Shelf.Small.Bits
import Derived.Shelf.Small.Wraps
import Derived.Shelf.Strconv.Itoa0
import Derived.Shelf.Strconv.Itoa1
import Derived.Shelf.LaysM
import Derived.Shelf.Strconv.Itoa2
import Derived.Shelf.Strconv.Itoa3
import Derived.Shelf.Strings.Search1
import Derived.Shelf.Strings.Search2
import Derived.Shelf.Strings.Search3
import Derived.Shelf.Strings.Shaped
import Derived.Shelf.Sort.Plain
import Derived.Shelf.Unicode.Decode
import Derived.Shelf.Bits.Mul64
import Derived.Shelf.Unicode.DecodeSlow
import Derived.Shelf.Unicode.DecodeAny
import Derived.Shelf.Slices.Reverse
import Derived.Ground.Names2Prog
import Derived.Shelf.Slices.SearchI
import Derived.Shelf.Slices.Cells
import Derived.Shelf.Slices.In.SortNone
import Derived.Shelf.Slices.Empties
import Derived.Shelf.Bytes.SlSearch0
import Derived.Ground.SlgnProg
import Derived.Shelf.SlicesE.Reverse
import Derived.Shelf.Bytes.SlSmallAll
import Derived.Shelf.Bytes.SlEqualAll
import Derived.Shelf.Bytes.Small
import Derived.RangeFuncNested
import Derived.RangeFuncBound
import Derived.RangeFuncCalls
import Derived.RangeFuncLeaves
import Derived.Shelf.Abstract
import Derived.Shelf.RegionOpen
import Derived.OwnWalkIn
import Derived.TacticsInMore
import Derived.LoopNIn
import Derived.LoopIn
set_option linter.unusedVariables false
set_option linter.unusedSimpArgs false
namespace Go.Proofs
section
open Go.Shelf
def Tryz.lays196_ren : Go.Shelf.Ren := ⟨fun | 196 => 225 | 259 => 257 | n => n, fun | 9 => 9 | 4 => 4 | 3 => 3 | 5 => 5 | 12 => 12 | 119 => 308 | 0 => 0 | 46 => 269 | 139 => 311 | 138 => 310 | 53 => 43 | n => n, fun | 3 => 0 | 4 => 1 | n => n⟩
theorem Tryz.lays196 : Go.Proofs.Lays.n196 Tryz.prog Tryz.lays196_ren := {
 mixed := by kernel_rfl
 f196 := Tryz.func225.trans (congrArg some (by kernel_rfl))
 f259 := Tryz.func257.trans (congrArg some (by kernel_rfl))
 t0 := Tryz.underlying0
 a0 := Tryz.isAgg0
 z0 := Tryz.sizeOf0
 v0 := Tryz.zeroValue0
 t3 := Tryz.underlying3
 a3 := Tryz.isAgg3
 z3 := Tryz.sizeOf3
 v3 := Tryz.zeroValue3
 t4 := Tryz.underlying4
 a4 := Tryz.isAgg4
 z4 := Tryz.sizeOf4
 v4 := Tryz.zeroValue4
 t5 := Tryz.underlying5
 a5 := Tryz.isAgg5
 z5 := Tryz.sizeOf5
 v5 := Tryz.zeroValue5
 t9 := Tryz.underlying9
 a9 := Tryz.isAgg9
 z9 := Tryz.sizeOf9
 v9 := Tryz.zeroValue9
 t12 := Tryz.underlying12
 a12 := Tryz.isAgg12
 z12 := Tryz.sizeOf12
 v12 := Tryz.zeroValue12
 t46 := Tryz.underlying269
 a46 := Tryz.isAgg269
 z46 := Tryz.sizeOf269
 v46 := Tryz.zeroValue269
 t53 := Tryz.underlying43
 a53 := Tryz.isAgg43
 z53 := Tryz.sizeOf43
 v53 := Tryz.zeroValue43
 t119 := Tryz.underlying308
 a119 := Tryz.isAgg308
 z119 := Tryz.sizeOf308
 t138 := Tryz.underlying310
 a138 := Tryz.isAgg310
 z138 := Tryz.sizeOf310
 v138 := Tryz.zeroValue310
 t139 := Tryz.underlying311
 a139 := Tryz.isAgg311
 z139 := Tryz.sizeOf311
 v139 := Tryz.zeroValue311
 g3 := by kernel_rfl
 g4 := by kernel_rfl }
open Go.RowKit Go.Lib in
theorem Tryz.utf8_ValidString (s : ByteArray) (w : World) (hs : s.size ≤ 9223372036854775807) (hT : Lib.Utf8Tabs 0 1 w) :
 Calls Tryz.prog 225 #[.string s] w fun e w' => e = .returned (.bool (Lib.validD s.data.toList)) ∧ Below w.heap.size w w' := Any.utf8_ValidString Tryz.lays196 s w hs hT
end
end Go.Proofs
namespace Go.Proofs.YtdkmlmbehlooiaaGreatDoor
section
open Go.RowKit
abbrev U8 (w : World) : Prop := Lib.Utf8Tabs 0 1 w
set_option maxHeartbeats 1000000 in
theorem utfCount_any (l : List UInt8) (k : Nat) (hk : runesN l = some k) (w : World) (hl : l.length < 9223372036854775807) (hT : U8 w) : Calls Tryz.prog 177 #[.string ⟨l.toArray⟩] w fun e w' => e = .returned (.int .i64 (k : Int)) ∧ Gr w w' := by
 have hne : runesN l ≠ none := by rw [hk]; exact fun e => by cases e
 have hv := Tryz.utf8_ValidString ⟨l.toArray⟩ w (by rw [size_of]; omega) hT
 have hd0 : (⟨l.toArray⟩ : ByteArray).data.toList = l := rfl
 rw [hd0, valid_of hne] at hv
 have HV := Lib.hid hv
 obtain ⟨s, hs⟩ : ∃ s : ByteArray, s = ⟨l.toArray⟩ := ⟨_, rfl⟩
 rw [← hs] at HV ⊢
 have hsz : s.size = l.length := by rw [hs]; exact size_of l
 have HS := Lib.hid hs; have HSZ := Lib.hid hsz; have HK := Lib.hid hk
 clear hs hsz hT hv hk hne hd0
 go_enter Tryz.func177, Tryz.ntmps177
 go_wp2_with fail
 refine HV.out.mono ?_
 rintro e w1 ⟨rfl, g1⟩
 have G1 : Hid (Gr w w1) := g1
 clear g1
 go_wp2_with fail
 go_loopw [2] (fun n w' => ∃ (pos acc : Nat), w' = w1.iter s pos ∧ n = .int .i64 acc ∧ acc ≤ pos ∧ pos ≤ s.size ∧ runesN l = (runesN (l.drop pos)).map (· + acc)) (fun _ w' => s.size - w'.iterPos w1.heap.size)
 case atStart => exact ⟨0, 0, rfl, rfl, Nat.le_refl _, Nat.zero_le _, by rw [List.drop_zero]; cases runesN l <;> rfl⟩
 case round =>
  obtain ⟨pos, acc, rfl, rfl, ha, hps, hrn⟩ := hrel
  have HRN := Lib.hid hrn; clear hrn
  have GI : Hid (∀ q, Gr w (w1.iter s q)) := fun q => G1.out.trans (Gr.alloc w1 (.stringIter s q))
  by_cases hp : pos < s.size
  · have hnx : ∀ ty, (Instr.next (.pointer (some ⟨w1.heap.size, 0, none⟩)) true ty).run Tryz.prog (w1.iter s pos) = _ := fun ty => run_next_any w1 s pos ty hp
    have hd := decode_small l pos (by rw [← HSZ.out]; exact hp)
    rw [← HS.out] at hd
    have hne : l.drop pos ≠ [] := by
     intro e
     have := congrArg List.length e
     rw [List.length_drop] at this
     have := HSZ.out
     simp at *
     omega
    have hpn : runesN (l.drop pos) ≠ none := fun e => by
     have h := HRN.out
     rw [e, HK.out] at h
     cases h
    have hsp := smallAt_pos hpn hne
    have hwp : 0 < (Utf8.decode s pos).2 := Lib.decode_width_pos s pos hp
    generalize hdec : Utf8.decode s pos = dc at *
    obtain ⟨rn, wd⟩ := dc
    simp only at hd hnx hwp
    have hd : smallAt (l.drop pos) = wd := by
     by_cases h : smallR rn = true
     · rw [if_pos h] at hd; exact hd
     · rw [if_neg h] at hd; omega
    obtain ⟨h3, h4, h5⟩ := runesN_step hd hwp
    rw [List.drop_drop] at h5
    rw [List.length_drop] at h3
    have HN2 : Hid (runesN l = (runesN (l.drop (pos + wd))).map (· + (acc + 1))) := by
     show _ = _
     rw [HRN.out, h5, map_add]
    have hpw : pos + wd ≤ s.size := by rw [HSZ.out]; have := HSZ.out; omega
    have hz := HSZ.out
    clear hd hne hdec h3 h5 hpn hsp
    go_wp2_with fail
    go_roundw
    case rel => exact ⟨pos + wd, acc + 1, rfl, by go_num, by omega, hpw, HN2.out⟩
    case measure => simp; omega
  · have hnx : ∀ ty, (Instr.next (.pointer (some ⟨w1.heap.size, 0, none⟩)) true ty).run Tryz.prog (w1.iter s pos) = _ := fun ty => run_next_end w1 s pos ty hp
    have hpe : pos = l.length := by have := HSZ.out; omega
    have HE : Hid (k = acc) := by
     have h := HRN.out
     rw [hpe, List.drop_length, HK.out] at h
     simp [runesN] at h
     exact h
    clear hpe
    go_wp2_with fail
    go_ret
    exact ⟨by rw [HE.out]; rfl, GI.out _⟩
end
end Go.Proofs.YtdkmlmbehlooiaaGreatDoor
namespace Go.Proofs
section
open Go.Shelf
def Tryz.lays219_ren : Go.Shelf.Ren := ⟨fun | 219 => 285 | 217 => 303 | 225 => 304 | 224 => 305 | 267 => 306 | 266 => 319 | 314 => 320 | n => n, fun | 9 => 9 | 3 => 3 | 4 => 4 | 5 => 5 | 46 => 269 | 146 => 355 | 51 => 291 | n => n, fun | 1 => 2 | n => n⟩
def Tryz.lays143_ren : Go.Shelf.Ren := ⟨fun | 143 => 254 | 219 => 285 | 217 => 303 | 225 => 304 | 224 => 305 | 267 => 306 | 266 => 319 | 314 => 320 | n => n, fun | 9 => 9 | 3 => 3 | 4 => 4 | 5 => 5 | 46 => 269 | 146 => 355 | 51 => 291 | n => n, fun | 1 => 2 | n => n⟩
theorem Tryz.lays143 : Go.Proofs.Lays.n143 Tryz.prog Tryz.lays143_ren := {
 mixed := by kernel_rfl
 f143 := Tryz.func254.trans (congrArg some (by kernel_rfl))
 f217 := Tryz.func303.trans (congrArg some (by kernel_rfl))
 f219 := Tryz.func285.trans (congrArg some (by kernel_rfl))
 f224 := Tryz.func305.trans (congrArg some (by kernel_rfl))
 f225 := Tryz.func304.trans (congrArg some (by kernel_rfl))
 f266 := Tryz.func319.trans (congrArg some (by kernel_rfl))
 f267 := Tryz.func306.trans (congrArg some (by kernel_rfl))
 f314 := Tryz.func320.trans (congrArg some (by kernel_rfl))
 t3 := Tryz.underlying3
 a3 := Tryz.isAgg3
 z3 := Tryz.sizeOf3
 v3 := Tryz.zeroValue3
 t4 := Tryz.underlying4
 a4 := Tryz.isAgg4
 z4 := Tryz.sizeOf4
 v4 := Tryz.zeroValue4
 t5 := Tryz.underlying5
 a5 := Tryz.isAgg5
 z5 := Tryz.sizeOf5
 v5 := Tryz.zeroValue5
 t9 := Tryz.underlying9
 a9 := Tryz.isAgg9
 z9 := Tryz.sizeOf9
 v9 := Tryz.zeroValue9
 t46 := Tryz.underlying269
 a46 := Tryz.isAgg269
 z46 := Tryz.sizeOf269
 v46 := Tryz.zeroValue269
 t51 := Tryz.underlying291
 a51 := Tryz.isAgg291
 z51 := Tryz.sizeOf291
 v51 := Tryz.zeroValue291
 t146 := Tryz.underlying355
 a146 := Tryz.isAgg355
 z146 := Tryz.sizeOf355
 v146 := Tryz.zeroValue355
 g1 := by kernel_rfl }
open Go.RowKit Go.Lib in
theorem Tryz.strings_Index_one (s : ByteArray) (c : UInt8) (w : World) :
 Calls Tryz.prog 254 #[.string s, .string ⟨#[c]⟩] w fun e w' => e = .returned (.int .i64 (Lib.indexByte s.data.toList c)) ∧ w' = w := Any.strings_Index_one Tryz.lays143 s c w
def Tryz.lays197_ren : Go.Shelf.Ren := ⟨fun | 197 => 253 | 260 => 284 | n => n, fun | 9 => 9 | 21 => 21 | 3 => 3 | 4 => 4 | 5 => 5 | 105 => 304 | 119 => 308 | 0 => 0 | 46 => 269 | 139 => 311 | 138 => 310 | n => n, fun | 3 => 0 | 4 => 1 | n => n⟩
def Tryz.lays260_ren : Go.Shelf.Ren := ⟨fun | 260 => 284 | n => n, fun | 9 => 9 | 21 => 21 | 3 => 3 | 4 => 4 | 5 => 5 | 119 => 308 | 0 => 0 | 46 => 269 | 139 => 311 | 138 => 310 | n => n, fun | 3 => 0 | 4 => 1 | n => n⟩
theorem Tryz.lays260 : Go.Proofs.Lays.n260 Tryz.prog Tryz.lays260_ren := {
 mixed := by kernel_rfl
 f260 := Tryz.func284.trans (congrArg some (by kernel_rfl))
 t0 := Tryz.underlying0
 a0 := Tryz.isAgg0
 z0 := Tryz.sizeOf0
 v0 := Tryz.zeroValue0
 t3 := Tryz.underlying3
 a3 := Tryz.isAgg3
 z3 := Tryz.sizeOf3
 v3 := Tryz.zeroValue3
 t4 := Tryz.underlying4
 a4 := Tryz.isAgg4
 z4 := Tryz.sizeOf4
 v4 := Tryz.zeroValue4
 t5 := Tryz.underlying5
 a5 := Tryz.isAgg5
 z5 := Tryz.sizeOf5
 v5 := Tryz.zeroValue5
 t9 := Tryz.underlying9
 a9 := Tryz.isAgg9
 z9 := Tryz.sizeOf9
 v9 := Tryz.zeroValue9
 t21 := Tryz.underlying21
 a21 := Tryz.isAgg21
 z21 := Tryz.sizeOf21
 v21 := Tryz.zeroValue21
 t46 := Tryz.underlying269
 a46 := Tryz.isAgg269
 z46 := Tryz.sizeOf269
 v46 := Tryz.zeroValue269
 t119 := Tryz.underlying308
 a119 := Tryz.isAgg308
 z119 := Tryz.sizeOf308
 t138 := Tryz.underlying310
 a138 := Tryz.isAgg310
 z138 := Tryz.sizeOf310
 v138 := Tryz.zeroValue310
 t139 := Tryz.underlying311
 a139 := Tryz.isAgg311
 z139 := Tryz.sizeOf311
 v139 := Tryz.zeroValue311
 g3 := by kernel_rfl
 g4 := by kernel_rfl }
def Tryz.laysNm225_ren : Go.Shelf.Ren := ⟨fun | 25 => 180 | 31 => 228 | 32 => 229 | 37 => 268 | n => n, fun | 22 => 79 | 3 => 3 | 4 => 4 | 40 => 269 | 0 => 0 | n => n, fun | n => n⟩
theorem Tryz.laysNm225 : Go.Proofs.Lays2.n25 Tryz.prog Tryz.laysNm225_ren := {
 mixed := by kernel_rfl
 f25 := Tryz.func180.trans (congrArg some (by kernel_rfl))
 f31 := Tryz.func228.trans (congrArg some (by kernel_rfl))
 f32 := Tryz.func229.trans (congrArg some (by kernel_rfl))
 f37 := Tryz.func268.trans (congrArg some (by kernel_rfl))
 t0 := Tryz.underlying0
 a0 := Tryz.isAgg0
 z0 := Tryz.sizeOf0
 v0 := Tryz.zeroValue0
 t3 := Tryz.underlying3
 a3 := Tryz.isAgg3
 z3 := Tryz.sizeOf3
 v3 := Tryz.zeroValue3
 t4 := Tryz.underlying4
 a4 := Tryz.isAgg4
 z4 := Tryz.sizeOf4
 v4 := Tryz.zeroValue4
 t22 := Tryz.underlying79
 a22 := Tryz.isAgg79
 z22 := Tryz.sizeOf79
 v22 := Tryz.zeroValue79
 t40 := Tryz.underlying269
 a40 := Tryz.isAgg269
 z40 := Tryz.sizeOf269
 v40 := Tryz.zeroValue269 }
open Go.RowKit Go.Lib in
theorem Tryz.slices_BinarySearch_int (b off n c : Nat) (zs : List Int) (x : Int) (w : World) (hz : n ≤ zs.length) (hbig : n < 4611686018427387904) (hc : ∀ j, j < zs.length → w.cell? ⟨b, off + j, none⟩ = some (.int .i64 (zs.getD j 0))) (hs : (zs.take n).Pairwise (· ≤ ·)) :
 Calls Tryz.prog 180 #[.slice (some ⟨b, off, none⟩) n c, .int .i64 x] w fun e w' => e = .returned (.tuple #[.int .i64 ((zs.take n).countP (· < x) : Nat), .bool ((zs.take n).contains x)]) ∧ ∃ q, w' = w.drewN q := Any.slices_BinarySearch_int Tryz.laysNm225 b off n c zs x w hz hbig hc hs
end
end Go.Proofs
namespace Go.Proofs.YtdkmlmbehlooiaaGreatDoor
section
open Go.RowKit Go.Shelf
attribute [local go_sem] Oper.semAt_some
def textLen (w : World) (b : Nat) : Nat := match w.cell? ⟨b, 0, none⟩ with
 | some (.string t) => t.size
 | _ => 0
theorem textLen_of {w : World} {b : Nat} {t : ByteArray} (h : w.cell? ⟨b, 0, none⟩ = some (.string t)) : textLen w b = t.size := by unfold textLen; rw [h]
def K3 (Bs Bp Bn : Nat) (A A' : World) : Prop := ∀ b, b = Bs ∨ b = Bp ∨ b = Bn → A'.heap[b]? = A.heap[b]?
theorem K3.trans {Bs Bp Bn : Nat} {A B C : World} (h : K3 Bs Bp Bn A B) (k : K3 Bs Bp Bn B C) : K3 Bs Bp Bn A C := fun b hb => (k b hb).trans (h b hb)
theorem take_text (l : List UInt8) (s : ByteArray) (hs : s = ⟨l.toArray⟩) (k : Nat) : s.extract 0 k = ⟨(l.take k).toArray⟩ := by
 subst hs
 apply ByteArray.ext
 simp [ByteArray.extract, ByteArray.copySlice]
theorem bC0 {w : World} {b : Nat} {t : TypeId} {v : Value} (h : Blk w b t [v]) : w.cell? ⟨b, 0, none⟩ = some v := (h.cell 0).trans rfl
set_option maxRecDepth 100000 in
set_option maxHeartbeats 2000000 in
theorem split1_in (n : Nat) (hn : 1 ≤ n) (q Bs Bp Bn : Nat) (hsp : Bs ≠ Bp) (hsn : Bs ≠ Bn) (l : List UInt8) (hl : l.length ≤ 100000) (J Jx : List (List UInt8) → World → Prop)
 (hJs : ∀ s A v, J s A → Bs < A.heap.size → J s (A.setCell ⟨Bs, 0, none⟩ v))
 (hY : ∀ pre x W, J pre W → (∃ rest, pre ++ x :: rest = pcL l) → YieldAt Fence.wide (n - 1) Tryz.prog q #[strc x] W fun e W' =>
  (e = .returned (.bool true) ∧ J (pre ++ [x]) W' ∧ K3 Bs Bp Bn W W') ∨ (e = .returned (.bool false) ∧ Jx (pre ++ [x]) W'))
 (W : World) (hBs : Blk W Bs 9 [strc l]) (hBp : Blk W Bp 9 [strc [46]]) (hBn : Blk W Bn 3 [.int .i64 0]) (h0 : J [] W) :
 CallsIn Fence.wide n Tryz.prog 252 #[.func (.yield q) #[] #[], .pointer (some ⟨Bp, 0, none⟩), .pointer (some ⟨Bs, 0, none⟩), .pointer (some ⟨Bn, 0, none⟩)] W fun e W' => (∃ v, e = .returned v) ∧
  (J (pcL l) W' ∨ ∃ pre, (∃ rest, pre ++ rest = pcL l) ∧ Jx pre W') := by
 refine callsIn_of_wp Tryz.func252 rfl trivial ?_ rfl
 simp only [Tryz.ntmps252, List.size_toArray, List.length_cons, List.length_nil, Nat.reduceAdd, Nat.reduceSub, Array.replicate_succ, Array.replicate_zero, List.push_toArray, List.append_toArray, List.nil_append, List.cons_append]
 have cp : W.cell? ⟨Bp, 0, none⟩ = some (.string ⟨#[46]⟩) := bC0 hBp
 have HJS := Lib.hid hJs; have HYY := Lib.hid hY
 have HL : Hid (l.length ≤ 100000) := hl
 clear hJs hY hl
 gi_wp2
 clear cp
 gi_loopw [7] (fun i wr => ∃ (pre : List (List UInt8)) (m : List UInt8), pre ++ pcL m = pcL l ∧ m.length ≤ 100000 ∧ Blk wr Bs 9 [strc m] ∧ Blk wr Bp 9 [strc [46]] ∧ Blk wr Bn 3 [.int .i64 0] ∧ J pre wr) (fun _ wr => textLen wr Bs)
 case atStart => exact ⟨[], l, rfl, HL.out, hBs, hBp, hBn, h0⟩
 case round =>
  obtain ⟨pre, m, hpm, hm, bs, bp, bn, hJ⟩ := hrel
  have BS := Lib.hid bs; have BP := Lib.hid bp; have BN := Lib.hid bn; have HJ := Lib.hid hJ; have HPM := Lib.hid hpm
  clear bs bp bn hJ hpm
  obtain ⟨t, ht⟩ : ∃ t : ByteArray, t = ⟨m.toArray⟩ := ⟨_, rfl⟩
  have htz : t.size = m.length := by rw [ht]; exact size_of' m
  have htd : t.data.toList = m := by rw [ht]
  have cs : wr.cell? ⟨Bs, 0, none⟩ = some (.string t) := by rw [ht]; exact bC0 BS.out
  have cp : wr.cell? ⟨Bp, 0, none⟩ = some (.string ⟨#[46]⟩) := bC0 BP.out
  have cn : wr.cell? ⟨Bn, 0, none⟩ = some (.int .i64 0) := bC0 BN.out
  have hix := Tryz.strings_Index_one t 46 wr
  rw [htd] at hix
  have HT := Lib.hid ht; have HTZ := Lib.hid htz
  have hts : t.size ≤ 100000 := by omega
  clear ht htz htd
  rcases pieces_index m _ rfl with ⟨hi, hp1⟩ | ⟨k, hi, hk, hp1⟩
  · rw [hi] at hix
    have HIX := Lib.hid hix
    clear hix hi
    have hfin : pre ++ [m] = pcL l := by rw [← hp1]; exact HPM.out
    obtain ⟨fn, tmps, assign, body, hy, hR⟩ := HYY.out pre m wr HJ.out ⟨[], hfin⟩
    rw [hfin] at hR
    have hy : (Instr.yield q #[.string t]).run Tryz.prog wr = .ok (.round q fn tmps assign body) wr := by rw [HT.out]; exact hy
    have HRR := Lib.hid hR
    clear hfin hR hp1
    gi_wp2_with (refine ⟨trivial, ?_⟩; gi_at_call 254; refine (callsIn_wide.2 HIX.out).mono ?_; rintro e w6 ⟨rfl, rfl⟩)
    refine HRR.out.mono ?_
    rintro e W3 (⟨rfl, hJ3, hk3⟩ | ⟨rfl, hJx3⟩)
    · gi_wp2
      go_end0
      exact ⟨⟨_, rfl⟩, .inl hJ3⟩
    · gi_wp2
      go_end0
      exact ⟨⟨_, rfl⟩, .inr ⟨_, ⟨[], List.append_nil _⟩, hJx3⟩⟩
  · rw [hi] at hix
    have HIX := Lib.hid hix
    clear hix hi
    have hfin : pre ++ m.take k :: pcL (m.drop (k + 1)) = pcL l := by rw [← hp1]; exact HPM.out
    obtain ⟨fn, tmps, assign, body, hy, hR⟩ := HYY.out pre (m.take k) wr HJ.out ⟨_, hfin⟩
    have hy : (Instr.yield q #[.string (t.extract 0 k)]).run Tryz.prog wr = .ok (.round q fn tmps assign body) wr := by rw [take_text m t HT.out k]; exact hy
    have HRR := Lib.hid hR
    have HFI := Lib.hid hfin
    have HDR := Lib.hid (drop_text m t HT.out (k + 1))
    have hkz : k < t.size := by have := HTZ.out; omega
    clear hfin hR hp1
    gi_wp2_with (refine ⟨trivial, ?_⟩; gi_at_call 254; refine (callsIn_wide.2 HIX.out).mono ?_; rintro e w6 ⟨rfl, rfl⟩)
    refine HRR.out.mono ?_
    rintro e W3 (⟨rfl, hJ3, hk3⟩ | ⟨rfl, hJx3⟩)
    · have bs3 : Blk W3 Bs 9 [strc m] := (hk3 Bs (.inl rfl)).trans BS.out
      have bp3 : Blk W3 Bp 9 [strc [46]] := (hk3 Bp (.inr (.inl rfl))).trans BP.out
      have bn3 : Blk W3 Bn 3 [.int .i64 0] := (hk3 Bn (.inr (.inr rfl))).trans BN.out
      have cs3 : W3.cell? ⟨Bs, 0, none⟩ = some (.string t) := by rw [HT.out]; exact bC0 bs3
      have cp3 : W3.cell? ⟨Bp, 0, none⟩ = some (.string ⟨#[46]⟩) := bC0 bp3
      have fs3 := bs3.free 0
      have ls3 := bs3.lt
      have HJ3 := Lib.hid hJ3
      have BS3 := Lib.hid bs3; have BP3 := Lib.hid bp3; have BN3 := Lib.hid bn3
      clear hk3 bs3 bp3 bn3 hJ3 cs cp cn hy
      gi_wp2
      have bs4 := BS3.out.set 0 (.string (t.extract (k + 1) t.size))
      rw [HDR.out] at bs4 ⊢
      have bs4 : Blk (W3.setCell ⟨Bs, 0, none⟩ (.string ⟨(m.drop (k + 1)).toArray⟩)) Bs 9 [strc (m.drop (k + 1))] := bs4
      refine ⟨⟨pre ++ [m.take k], m.drop (k + 1), ?_, ?_, bs4, BP3.out.far (p := ⟨Bs, 0, none⟩) (Ne.symm hsp) _, BN3.out.far (p := ⟨Bs, 0, none⟩) (Ne.symm hsn) _, HJS.out _ _ _ HJ3.out ls3⟩, ?_⟩
      · rw [List.append_assoc]; exact HFI.out
      · rw [List.length_drop]; omega
      · rw [textLen_of (bC0 BS.out), textLen_of (bC0 bs4), size_of', size_of', List.length_drop]
        omega
    · gi_wp2
      refine bodyPost_ret (results_none rfl _ _ _) rfl ?_
      exact ⟨⟨_, rfl⟩, .inr ⟨_, ⟨pcL (m.drop (k + 1)), by rw [List.append_assoc]; exact HFI.out⟩, hJx3⟩⟩
end
section
open Go.RowKit Go.Shelf
attribute [local go_sem] Oper.semAt_some
def boxPost {α : Type} (Kp : World → World → Prop) (I Ix : List α → World → Prop) (xs : List α) (W : World) : Exit → Act → World → Prop
 | .normal, _, W' => KeepsOthers W W' ∧ Kp W W' ∧ I xs W'
 | .ret, _, W' => KeepsOthers W W' ∧ Ix xs W'
 | _, _, _ => False
structure Laid (L : Nat) (r : Loop) (W : World) : Prop where
 loop : W.heap[L + 1]? = some (.loop r)
 defer : W.heap[L]? = some (.deferred (some []))
theorem Laid.put {L : Nat} {r r' : Loop} {W : World} (h : Laid L r W) : Laid L r' (W.putObj (L + 1) (.loop r')) :=
 ⟨World.putObj_heap_same (Array.getElem?_eq_some_iff.1 h.loop).1, (World.putObj_heap_other (by omega)).trans h.defer⟩
theorem Laid.keep {L : Nat} {r : Loop} {W W' : World} (h : Laid L r W) (k : KeepsOthers W W') : Laid L r W' := ⟨k.same _ _ h.loop rfl, k.same _ _ h.defer rfl⟩
theorem Laid.set {L B : Nat} {r : Loop} {W : World} (h : Laid L r W) (v : Value) : Laid L r (W.setCell ⟨B, 0, none⟩ v) := h.keep (KeepsOthers.setCell _ _ _)
set_option maxHeartbeats 400000 in
theorem range_box {P : Program} {α : Type} {g : Operand} {p : Tmp} {assign body : Code} {Q : Exit → Act → World → Prop} {a : Act} {w : World} {n : Nat} (h1 : 1 ≤ n)
 {gf : Nat} {lb : Array Value} (hg : a.eval g = .func (.func gf) #[] lb) (eg : ∀ args w, (callFunc gf args).run P w = .ok (.enter gf args) w)
 (enc : α → Value) (Kp : World → World → Prop) (hKt : ∀ A B C, Kp A B → Kp B C → Kp A C) (hKp : ∀ W l o, w.heap.size ≤ l → Kp W (W.putObj l o))
 (S Sp : List α → Prop) (B : Nat) (ok : List α → α → Prop)
 (hseq : ∀ (q : Nat) (J Jx : List α → World → Prop) (W : World), Gr w W → (∀ s A v, J s A → B < A.heap.size → J s (A.setCell ⟨B, 0, none⟩ v)) →
  (∀ pre x A, J pre A → ok pre x → YieldAt Fence.wide (n - 1 - 1) P q #[enc x] A fun e A' => (e = .returned (.bool true) ∧ J (pre ++ [x]) A' ∧ Kp A A') ∨ (e = .returned (.bool false) ∧ Jx (pre ++ [x]) A')) → J [] W →
  CallsIn Fence.wide (n - 1) P gf (#[.func (.yield q) #[] #[]] ++ lb) W fun e W' => (∃ v, e = .returned v) ∧ ((∃ xs, S xs ∧ J xs W') ∨ ∃ pre, Sp pre ∧ Jx pre W'))
 (I Ix : List α → World → Prop) (hIa : ∀ s W o, I s W → I s (W.alloc o))
 (hIp : ∀ s W l o o', I s W → w.heap.size ≤ l → W.heap[l]? = some o → o.isCells = false → I s (W.putObj l o'))
 (hXp : ∀ s W l o o', Ix s W → w.heap.size ≤ l → W.heap[l]? = some o → o.isCells = false → Ix s (W.putObj l o'))
 (hIs : ∀ s W v, I s W → I s (W.setCell ⟨B, 0, none⟩ v)) (h0 : I [] w) (a₁ : α → Act)
 (hassign : ∀ (q : Nat) (x : α) (W : World) (K : Act → World → Prop), K (a₁ x) W →
  assign.wpIn (Fence.wide.inRound q) (n - 1 - 1) P (Exit.then K (fun _ _ _ => False)) { tmps := (#[p].zip #[enc x]).foldl (fun t (p, v) => t.setIfInBounds p v) a.tmps, defers := [] } W)
 (hbody : ∀ (q : Nat) (pre : List α) (x : α) (W : World), I pre W → ok pre x → body.wpIn (Fence.wide.inRound q) (n - 1 - 1) P (boxPost Kp I Ix (pre ++ [x]) W) (a₁ x) W)
 (hdone : ∀ (D : Nat) (xs : List α) (W : World), w.heap.size ≤ D → S xs → I xs W → W.heap[D]? = some (.deferred (some [])) → Q .normal { a with defers := { target := .collected D, args := #[] } :: a.defers } W)
 (hstop : ∀ (D : Nat) (pre : List α) (W : World), w.heap.size ≤ D → Sp pre → Ix pre W → W.heap[D]? = some (.deferred (some [])) → Code.ret.wpIn Fence.wide n P Q { a with defers := { target := .collected D, args := #[] } :: a.defers } W) :
 (Code.rangeFunc g #[p] assign body).wpIn Fence.wide n P Q a w := by
 refine wpIn_rangeFunc fun fn hfn => ?_
 rw [show Fence.wide.round = none from rfl]
 obtain ⟨L, hL⟩ : ∃ L, L = w.heap.size := ⟨_, rfl⟩
 obtain ⟨rc, hrc⟩ : ∃ rc : LoopState → Option Code → Loop, rc = fun st pe => { state := st, pending := pe, fn, tmps := a.tmps, params := #[p], assign, body, defers := L } := ⟨_, rfl⟩
 obtain ⟨W1, hW1⟩ : ∃ W1, W1 = (w.alloc (.deferred (some []))).alloc (.loop (rc .ready none)) := ⟨_, rfl⟩
 have lay : Laid L (rc .ready none) W1 := by
  refine ⟨?_, ?_⟩
  · rw [hW1, hL]
    have := World.alloc_heap_new (w.alloc (.deferred (some []))) (.loop (rc .ready none))
    rwa [World.size_alloc] at this
  · rw [hW1, hL]
    exact (Below.heap_alloc _ _ _ (by simp)).trans (World.alloc_heap_new w _)
 have gW1 : Gr w W1 := by rw [hW1]; exact (Gr.alloc w _).trans (Gr.alloc _ _)
 have rdy : (rc .ready none).state = .ready := by rw [hrc]
 have call := hseq (L + 1) (fun pre W => I pre W ∧ Laid L (rc .ready none) W) (fun pre W => Ix pre W ∧ Laid L (rc .done (some .ret)) W) W1 gW1
  (fun s A v h _ => ⟨hIs s A v h.1, h.2.set v⟩)
  (by
   rintro pre x A ⟨hi, hl⟩ hok
   have hy := run_yield (P := P) (args := #[enc x]) hl.loop (by rw [hrc]; rfl)
   rw [hrc] at hy
   refine ⟨fn, _, assign, body, hy, roundIn_of_wpIn hfn (hassign _ x A _ ⟨_, run_beginRound hl.loop rdy, ?_⟩)⟩
   obtain ⟨A2, hA2⟩ : ∃ A2, A2 = A.putObj (L + 1) (.loop { rc .ready none with state := .busy }) := ⟨_, rfl⟩
   have hl2 : Laid L { rc .ready none with state := .busy } A2 := by rw [hA2]; exact hl.put
   have hk2 : Kp A A2 := by rw [hA2]; exact hKp _ _ _ (by omega)
   have hi2 : I pre A2 := by rw [hA2]; exact hIp _ _ _ _ _ hi (by omega) hl.loop rfl
   rw [← hA2]
   refine wpIn_mono (hbody _ pre x A2 hi2 hok) ?_
   rintro e a3 A3 hp
   cases e with
   | normal =>
    obtain ⟨hk3, hkp3, hi3⟩ := hp
    have hl3 := hl2.keep hk3
    have hr := run_endRound (P := P) none hl3.loop
    refine ⟨_, _, hr, .inl ⟨rfl, ⟨hIp _ _ _ _ _ hi3 (by omega) hl3.loop rfl, ?_⟩, hKt _ _ _ (hKt _ _ _ hk2 hkp3) (hKp _ _ _ (by omega))⟩⟩
    have := hl3.put (r' := rc .ready none)
    rw [hrc] at this ⊢
    exact this
   | ret =>
    obtain ⟨hk3, hi3⟩ := hp
    have hl3 := hl2.keep hk3
    have hr := run_endRound (P := P) (some .ret) hl3.loop
    refine ⟨_, _, hr, .inr ⟨rfl, hXp _ _ _ _ _ hi3 (by omega) hl3.loop rfl, ?_⟩⟩
    have := hl3.put (r' := rc .done (some .ret))
    rw [hrc] at this ⊢
    exact this
   | exit id => exact hp.elim
   | goto t => exact hp.elim
   | panic ch => exact hp.elim
   | outgrown => exact hp.elim)
  ⟨by rw [hW1]; exact hIa _ _ _ (hIa _ _ _ h0), lay⟩
 refine ⟨L + 1, [{ target := .collected L, args := #[] }], W1, { target := .fn (.func gf) lb, args := #[.func (.yield (L + 1)) #[] #[]] }, W1, gf,
  #[.func (.yield (L + 1)) #[] #[]] ++ lb, W1, ?_, ?_, ?_, ?_, ?_, ?_⟩
 · rw [hW1, hrc, hL]; exact run_enterLoop_outer _ _ _ _ _
 · simp only [resolve, hg]
   simp [go_sem]
 · exact fun _ _ => trivial
 · simp [invoke, go_sem, eg]
 · exact fun _ => h1
 · refine call.mono ?_
   rintro e W2 ⟨⟨v, rfl⟩, (⟨xs, hS, hi, hl⟩ | ⟨pre, hSp, hx, hl⟩)⟩
   · refine ⟨none, W2.putObj (L + 1) (.loop { rc .ready none with state := .exhausted }), ?_, hdone L xs _ (by omega) hS (hIp _ _ _ _ _ hi (by omega) hl.loop rfl) ((World.putObj_heap_other (by omega)).trans hl.defer)⟩
     have := run_endLoop (P := P) hl.loop (by rw [hrc]; simp)
     rw [hrc] at this ⊢
     exact this
   · refine ⟨some .ret, W2.putObj (L + 1) (.loop { rc .done (some .ret) with state := .exhausted }), ?_, hstop L pre _ (by omega) hSp (hXp _ _ _ _ _ hx (by omega) hl.loop rfl) ((World.putObj_heap_other (by omega)).trans hl.defer)⟩
     have := run_endLoop (P := P) hl.loop (by rw [hrc]; simp)
     rw [hrc] at this ⊢
     exact this
end
end Go.Proofs.YtdkmlmbehlooiaaGreatDoor
