/- Own texts of this claim, one behind the other. No condition. -/
import Derived.Test.YtcfbbgbjlgonpaaGreatDoorObPkAD
import Derived.Test.YtcfbbgbjlgonpaaGreatDoorObPkAF
import Derived.Test.YtcfbbgbjlgonpaaGreatDoorObPkAX
import Derived.Test.YtcfbbgbjlgonpaaGreatDoorObPkBK
import Derived.Test.YtcfbbgbjlgonpaaGreatDoorObPkBL
import Derived.Lib.ConvBytes

/- CRC: a step. No condition. -/
namespace Go.Proofs.YtcfbbgbjlgonpaaGreatDoor
open Go.RowKit
set_option linter.unusedVariables false
set_option linter.unusedSimpArgs false
def stepW (c : UInt32) : UInt32 := shrW c 1 ^^^ (3988292384 &&& (0 - (c &&& 1)))
theorem shr1 (x : UInt32) : un x / 2 = un (shrW x 1) := by unfold un; rw [shr_nat, Int.natCast_ediv]; rfl
theorem w_neg (y : UInt32) : -un y % 4294967296 = un (0 - y) := by
  unfold un
  rw [UInt32.toNat_sub]
  have := u32_lt y
  show _ = (((4294967296 - y.toNat + 0) % 4294967296 : Nat) : Int)
  omega
theorem crcStep_val (c : UInt32) : bits .xor .u32 (un c / 2) (bits .and .u32 3988292384 (-bits .and .u32 (un c) 1 % 4294967296)) = un (stepW c) := by
  have e1 : bits .and .u32 (un c) 1 = un (c &&& 1) := w_and c 1
  rw [shr1, e1, w_neg]
  have e2 : bits .and .u32 3988292384 (un (0 - (c &&& 1))) = un (3988292384 &&& (0 - (c &&& 1))) := w_and 3988292384 _
  rw [e2, w_xor]
  rfl
theorem crcStep_any (c : UInt32) (w : World) : Calls Tryz.prog 148 #[.int .u32 (un c)] w fun e w' => e = .returned (.int .u32 (un (stepW c))) ∧ w = w' := by
  have HV := Lib.hid (crcStep_val c)
  go_enter Tryz.func148, Tryz.ntmps148
  go_wp2_with fail
  go_ret
  exact ⟨by rw [← HV.out]; rfl, rfl⟩
end Go.Proofs.YtcfbbgbjlgonpaaGreatDoor

/- CRC: a byte, and sums. No condition. -/
namespace Go.Proofs.YtcfbbgbjlgonpaaGreatDoor
open Go.RowKit
set_option linter.unusedVariables false
set_option linter.unusedSimpArgs false
def stepsW (c : UInt32) : Nat → UInt32
  | 0 => c
  | k + 1 => stepW (stepsW c k)
def byteW (c : UInt32) (x : UInt8) : UInt32 := stepsW (c ^^^ x.toUInt32) 8
theorem un_byte (x : UInt8) : un x.toUInt32 = (x.toNat : Int) := by unfold un; rw [UInt8.toNat_toUInt32]
theorem w_byte (c : UInt32) (x : UInt8) : bits .xor .u32 (un c) (x.toNat : Int) = un (c ^^^ x.toUInt32) := by rw [← un_byte, w_xor]
def CrcAt (w w' : World) (p : Nat) (v : UInt32) : Prop := Blk w' p 119 [.int .u32 (un v)] ∧ Tch (fun b => b = p) w w'
set_option maxRecDepth 100000 in
set_option maxHeartbeats 1000000 in
theorem crcByte_any (p : Nat) (c : UInt32) (x : UInt8) (xi : Int) (hx : xi = (x.toNat : Int)) (w : World) (h : Blk w p 119 [.int .u32 (un c)]) :
    Calls Tryz.prog 147 #[.int .u8 xi, .pointer (some ⟨p, 0, none⟩)] w fun e w' => e = .returned (.tuple #[]) ∧ CrcAt w w' p (byteW c x) := by
  have x0 : 0 ≤ xi := by omega
  have x1 : xi < 256 := by have := x.toNat_lt; omega
  have e1 := w_byte c x
  rw [← hx] at e1
  have c0 := h.cell 0
  have f0 := h.free 0
  have HB := Lib.hid h
  have HC1 : Hid (CrcAt w (w.setCell ⟨p, 0, none⟩ (.int .u32 (un (c ^^^ x.toUInt32)))) p (stepsW (c ^^^ x.toUInt32) 0)) := ⟨h.set 0 _, Tch.set ⟨p, 0, none⟩ _ rfl⟩
  clear h hx
  go_enter Tryz.func147, Tryz.ntmps147
  go_wp2_with fail
  go_loopw [7] (fun i wr => ∃ k : Nat, k ≤ 8 ∧ i = .int .i64 (k : Int) ∧ CrcAt w wr p (stepsW (c ^^^ x.toUInt32) k)) (fun i _ => 8 - (Go.RowKit.intOf i).toNat)
  case atStart => exact ⟨0, Nat.zero_le _, rfl, HC1.out⟩
  case round =>
    obtain ⟨k, hk, rfl, hc⟩ := hrel
    have p0 : (0 : Int) ≤ k := by omega
    obtain ⟨v, hv⟩ : ∃ v, v = stepsW (c ^^^ x.toUInt32) k := ⟨_, rfl⟩
    rw [← hv] at hc
    have HV := Lib.hid hv
    have HC := Lib.hid hc
    have c1 := hc.1.cell 0
    have f1 := hc.1.free 0
    clear hc hv c0 f0
    by_cases hlt : k < 8
    · have t0 : decide ((k : Int) < 8) = true := decide_eq_true (by omega)
      go_wp2_with fail
      refine (crcStep_any v _).mono ?_
      rintro e w2 ⟨rfl, h2⟩
      rw [← h2]
      clear h2 w2
      go_wp2_with fail
      go_roundw
      case rel => exact ⟨k + 1, by omega, by go_num, by rw [stepsW, ← HV.out]; exact ⟨HC.out.1.set 0 _, HC.out.2.trans (Tch.set ⟨p, 0, none⟩ _ rfl)⟩⟩
      case measure => simp [Go.RowKit.intOf]; omega
    · have t0 : decide ((k : Int) < 8) = false := decide_eq_false (by omega)
      have hk8 : k = 8 := by omega
      subst hk8
      go_wp2_with fail
      go_end0
      refine ⟨rfl, ?_⟩
      unfold byteW
      rw [← HV.out]
      exact HC.out
end Go.Proofs.YtcfbbgbjlgonpaaGreatDoor

/- CRC: sums. No condition. -/
namespace Go.Proofs.YtcfbbgbjlgonpaaGreatDoor
open Go.RowKit
set_option linter.unusedVariables false
set_option linter.unusedSimpArgs false
def crcTo (c : UInt32) (l : List UInt8) : Nat → UInt32
  | 0 => c
  | k + 1 => byteW (crcTo c l k) (l.getD k 0)
def crcW (s : UInt32) (l : List UInt8) : UInt32 := crcTo (s ^^^ 4294967295) l l.length ^^^ 4294967295
def crcL (l : List UInt8) : List UInt8 := be (crcW 0 l).toNat 8
theorem w_all (c : UInt32) : bits .xor .u32 (un c) 4294967295 = un (c ^^^ 4294967295) := w_xor c 4294967295
set_option maxRecDepth 100000 in
set_option maxHeartbeats 1000000 in
theorem crcMore_any (s : UInt32) (A : Option Addr) (n c : Nat) (l : List UInt8) (w : World) (h : Bs w A n c l) :
    Calls Tryz.prog 117 #[.int .u32 (un s), .slice A n c] w fun e w' => e = .returned (.int .u32 (un (crcW s l))) ∧ Gr w w' := by
  have hl : l.length = n := h.len
  have hcp := Sl.cap h; have hmx := Sl.max h
  have e1 := w_all s
  obtain ⟨p, hp⟩ : ∃ p, p = w.heap.size := ⟨_, rfl⟩
  have HP := Lib.hid hp
  have HL := Lib.hid hl; have HB := Lib.hid h; have HCP := Lib.hid hcp; have HMX := Lib.hid hmx
  clear h hl hp
  go_enter Tryz.func117, Tryz.ntmps117
  go_wp2_with fail
  rw [← HP.out]
  go_loopw [14] (fun i wr => ∃ k : Nat, k ≤ n ∧ i = .int .i64 (k : Int) ∧ Gr w wr ∧ Blk wr p 119 [.int .u32 (un (crcTo (s ^^^ 4294967295) l k))]) (fun i _ => n - (Go.RowKit.intOf i).toNat)
  case atStart => exact ⟨0, Nat.zero_le _, rfl, by first | exact Gr.alloc _ _ | (rw [HP.out]; exact ((Below.refl _ _).alloc (Nat.le_refl _) _).setCell (Nat.le_refl _) _), by rw [HP.out]; first | exact Blk.new w _ _ | exact (Blk.new w _ _).set 0 _⟩
  case round =>
    obtain ⟨k, hk, rfl, g, hb⟩ := hrel
    have p0 : (0 : Int) ≤ k := by omega
    have HG := Lib.hid g
    have HC := Lib.hid hb
    have c1 := hb.cell 0
    clear g hb
    by_cases hlt : k < n
    · have t0 : decide ((k : Int) < (n : Int)) = true := decide_eq_true (by omega)
      obtain ⟨b, o, rfl, hcell⟩ := Sl.addr (HB.out.mono HG.out) (by omega)
      have cc := hcell k _ (u8c_at (l := l) (j := k) (by rw [HL.out]; exact hlt))
      clear hcell c1
      have HBY := Lib.hid (crcByte_any p (crcTo (s ^^^ 4294967295) l k) (l.getD k 0) (bAt l k) rfl wr HC.out)
      have hpw : Hid (w.heap.size ≤ wr.heap.size) := HG.out.size
      go_wp2_with fail
      refine HBY.out.mono ?_
      rintro e w2 ⟨rfl, hc2⟩
      have HC2 : Hid (Blk w2 p 119 [.int .u32 (un (crcTo (s ^^^ 4294967295) l (k + 1)))]) := hc2.1
      have HG2 : Hid (Gr w w2) := Tch.below HG.out hc2.2 hpw.out (fun b hb => by rw [hb, HP.out]; exact Nat.le_refl _)
      clear hc2 cc
      go_wp2_with fail
      go_roundw
      case rel => exact ⟨k + 1, by omega, by go_num, HG2.out, HC2.out⟩
      case measure => simp [Go.RowKit.intOf]; omega
    · have t0 : decide ((k : Int) < (n : Int)) = false := decide_eq_false (by omega)
      have e2 := w_all (crcTo (s ^^^ 4294967295) l k)
      have hkn : k = l.length := by rw [HL.out]; omega
      go_wp2_with fail
      go_ret
      refine ⟨?_, HG.out⟩
      unfold crcW
      rw [← hkn]
      exact congrArg (fun z => Ending.returned (.int .u32 z)) (w_all _)
theorem crcOf_any (A : Option Addr) (n c : Nat) (l : List UInt8) (w : World) (h : Bs w A n c l) :
    Calls Tryz.prog 86 #[.slice A n c] w fun e w' => e = .returned (.int .u32 (un (crcW 0 l))) ∧ Gr w w' := by
  have HM : Hid (Calls Tryz.prog 117 #[.int .u32 0, .slice A n c] w fun e w' => e = .returned (.int .u32 (un (crcW 0 l))) ∧ Gr w w') := crcMore_any 0 A n c l w h
  clear h
  go_enter Tryz.func86, Tryz.ntmps86
  go_wp2_with fail
  refine HM.out.mono ?_
  rintro e w1 ⟨rfl, g1⟩
  have G1 := Lib.hid g1
  clear g1
  go_wp2_with fail
  go_ret
  exact ⟨rfl, G1.out⟩
theorem crcBytes_any (A : Option Addr) (n c : Nat) (l : List UInt8) (w : World) (h : Bs w A n c l) :
    Calls Tryz.prog 53 #[.slice A n c] w (RetBs w (crcL l)) := by
  have HO := Lib.hid (crcOf_any A n c l w h)
  have u0 := un_nn (crcW 0 l)
  have u1 := un_lt (crcW 0 l)
  have HN : Hid (∀ w', Calls Tryz.prog 73 #[.int .u64 (un (crcW 0 l)), .int .i64 8] w' (RetBs w' (crcL l))) := fun w' => put_yes (crcW 0 l).toNat 8 w' (by have := u32_lt (crcW 0 l); omega) (by decide) (by decide)
  clear h
  go_enter Tryz.func53, Tryz.ntmps53
  go_wp2_with fail
  refine HO.out.mono ?_
  rintro e w1 ⟨rfl, g1⟩
  have G1 := Lib.hid g1
  clear g1
  go_wp2_with fail
  refine (HN.out w1).mono ?_
  rintro e w2 ⟨v2, rfl, o2⟩
  have O2 := Lib.hid (o2.base G1.out)
  clear o2
  go_wp2_with fail
  go_ret
  exact ⟨v2, rfl, O2.out⟩
end Go.Proofs.YtcfbbgbjlgonpaaGreatDoor

/- Real suites: Open, Sum, Check. No condition. -/
namespace Go.Proofs.YtcfbbgbjlgonpaaGreatDoor
open Go.RowKit
set_option linter.unusedVariables false
set_option linter.unusedSimpArgs false
def RetOpenR (w : World) (key b : List UInt8) (e : Ending) (w' : World) : Prop :=
  Gr w w' ∧ if sealedL key b = true then (∃ v, e = .returned (.tuple #[v, .bool true]) ∧ Own w w' 5 1 v (b.length - 48) ((openL key b).map u8c)) else e = .returned (.tuple #[.slice none 0 0, .bool false])
set_option maxRecDepth 100000 in
set_option maxHeartbeats 1000000 in
theorem realOpen_any (g : Nat) (A B : Option Addr) (c d m : Nat) (key b : List UInt8) (w : World) (h : RealS w g) (hk : Bs w A 32 c key) (hb : Bs w B m d b) (h48 : 48 ≤ m) (hm : m ≤ 30000) (hK : ShaK w) :
    Calls Tryz.prog 19 #[.pointer (some ⟨g, 0, none⟩), .slice A 32 c, .slice B m d] w (RetOpenR w key b) := by
  have HN := Lib.hid (none_any g w h)
  have HR := Lib.hid (real_any g w h)
  have HO := Lib.hid (boxOpen_some A B c d m key b w hk hb h48 hm hK)
  clear h hk hb hK
  go_enter Tryz.func19, Tryz.ntmps19
  go_wp2_with fail
  first | go_step3 | skip
  go_wp2_with fail
  refine HN.out.mono ?_
  rintro e w1 ⟨rfl, h1⟩
  rw [← h1]
  clear h1 w1
  go_wp2_with fail
  refine HR.out.mono ?_
  rintro e w1 ⟨rfl, h1⟩
  rw [← h1]
  clear h1 w1
  go_wp2_with fail
  refine HO.out.mono ?_
  rintro e w2 ⟨g2, ho⟩
  have G2 := Lib.hid g2
  clear g2
  unfold RetOpenR
  cases hq : sealedL key b
  · rw [hq] at ho
    replace ho : e = .returned (.tuple #[.slice none 0 0, .int .i64 11]) := by simpa using ho
    subst ho
    have HQ : Hid (¬ sealedL key b = true) := by show ¬ _; rw [hq]; decide
    clear hq
    go_wp2_with fail
    try rw [Exit.noGoto_ret]
    go_ret2
    exact ⟨G2.out, by rw [if_neg HQ.out]; rfl⟩
  · rw [hq, if_pos rfl] at ho
    obtain ⟨v, rfl, o⟩ := ho
    have O := Lib.hid o; have HQ := Lib.hid hq
    clear hq o
    go_wp2_with fail
    try rw [Exit.noGoto_ret]
    go_ret2
    exact ⟨G2.out, by rw [if_pos HQ.out]; exact ⟨v, rfl, O.out⟩⟩
set_option maxRecDepth 100000 in
set_option maxHeartbeats 1000000 in
theorem realSum_any (g : Nat) (A : Option Addr) (n c : Nat) (b : List UInt8) (w : World) (h : RealS w g) (hb : Bs w A n c b) :
    Calls Tryz.prog 21 #[.pointer (some ⟨g, 0, none⟩), .slice A n c] w (RetBs w (crcL b)) := by
  have HN := Lib.hid (none_any g w h)
  have HR := Lib.hid (real_any g w h)
  have HC := Lib.hid (crcBytes_any A n c b w hb)
  clear h hb
  go_enter Tryz.func21, Tryz.ntmps21
  go_wp2_with fail
  first | go_step3 | skip
  go_wp2_with fail
  refine HN.out.mono ?_
  rintro e w1 ⟨rfl, h1⟩
  rw [← h1]
  clear h1 w1
  go_wp2_with fail
  refine HR.out.mono ?_
  rintro e w1 ⟨rfl, h1⟩
  rw [← h1]
  clear h1 w1
  go_wp2_with fail
  refine HC.out.mono ?_
  rintro e w2 ⟨v, rfl, o⟩
  have O := Lib.hid o
  clear o
  go_wp2_with fail
  try rw [Exit.noGoto_ret]
  go_ret
  exact ⟨v, rfl, O.out⟩
set_option maxRecDepth 100000 in
set_option maxHeartbeats 1000000 in
theorem realCheck_any (g : Nat) (A B : Option Addr) (n c m d : Nat) (b i : List UInt8) (w : World) (h : RealS w g) (hb : Bs w A n c b) (hi : Bs w B m d i) :
    Calls Tryz.prog 20 #[.pointer (some ⟨g, 0, none⟩), .slice A n c, .slice B m d] w fun e w' => e = .returned (.bool (crcL b == i)) ∧ Gr w w' := by
  have HN := Lib.hid (none_any g w h)
  have HR := Lib.hid (real_any g w h)
  have HC := Lib.hid (crcBytes_any A n c b w hb)
  have HI := Lib.hid hi
  clear h hb hi
  go_enter Tryz.func20, Tryz.ntmps20
  go_wp2_with fail
  first | go_step3 | skip
  go_wp2_with fail
  refine HN.out.mono ?_
  rintro e w1 ⟨rfl, h1⟩
  rw [← h1]
  clear h1 w1
  go_wp2_with fail
  refine HR.out.mono ?_
  rintro e w1 ⟨rfl, h1⟩
  rw [← h1]
  clear h1 w1
  go_wp2_with fail
  refine HC.out.mono ?_
  rintro e w2 ⟨v, rfl, o⟩
  obtain ⟨A2, c2, rfl, s2⟩ := o.slice
  have G2 := Lib.hid o.below
  have HE := Lib.hid (same_any A2 B _ m c2 d (crcL b) i w2 s2 (HI.out.mono o.below))
  clear o s2
  go_wp2_with fail
  refine HE.out.mono ?_
  rintro e w3 ⟨rfl, h3⟩
  rw [← h3]
  clear h3 w3
  go_wp2_with fail
  try rw [Exit.noGoto_ret]
  go_ret
  exact ⟨rfl, G2.out⟩
end Go.Proofs.YtcfbbgbjlgonpaaGreatDoor

/- The suite of terms: held, Open. No condition. -/
namespace Go.Proofs.YtcfbbgbjlgonpaaGreatDoor
open Go.RowKit
set_option linter.unusedVariables false
set_option linter.unusedSimpArgs false
theorem conv2_fn {P : Program} (s : ByteArray) (t : TypeId) (hs : P.underlying 9 = some .string) (hd : P.underlying t = some (.slice 5)) (he : P.underlying 5 = some (.int .u8)) (hm : s.size ≤ maxLen) :
    ∃ (cf : World → Nat) (wf : World → World), ∀ w, (convert 9 t (.string s)).run P w = .ok (.slice (some ⟨w.heap.size, 0, none⟩) s.size (cf w)) (wf w) ∧ Bs (wf w) (some ⟨w.heap.size, 0, none⟩) s.size (cf w) s.data.toList ∧ Gr w (wf w) := by
  refine ⟨fun w => grownCap w s.size 0 5, fun w => Lib.bytesWorld w 5 s, fun w => ⟨Lib.run_convert_string_bytes w 9 t 5 s hs hd he, ⟨by simp, grownCap_ge _ _ _ _, grownCap_le_maxLen _ _ _ _ hm, fun _ => ⟨_, _, rfl, fun j u hu => ?_⟩⟩, ?_⟩⟩
  · rw [Nat.zero_add]
    have hj : j < s.size := by have := (List.getElem?_eq_some_iff.1 hu).1; simpa using this
    rw [Lib.bytesWorld_cell w 5 s j hj, ← hu]
    exact (u8c_at (l := s.data.toList) (by simpa using hj)).symm
  · have h1 := run_bytes_of_string (P := P) w 9 t 5 s hs hd he
    have h2 := Lib.run_convert_string_bytes (P := P) w 9 t 5 s hs hd he
    rw [h1] at h2
    injection h2 with _ h3
    show Below w.heap.size w (Lib.bytesWorld w 5 s)
    rw [← h3]
    exact ((Below.refl _ _).drew).alloc (Nat.le_refl _) _
/-- Bytes that a call tells. -/
def RetB (w : World) (l : List UInt8) (e : Ending) (w' : World) : Prop := ∃ A n c, e = .returned (.slice A n c) ∧ Bs w' A n c l ∧ Gr w w'
section
variable {w0 w : World} {p g bm bs : Nat} {T : List Nd}
set_option maxRecDepth 100000 in
set_option maxHeartbeats 2000000 in
theorem SymS.held (h : SymS w0 w p g bm bs T) (id : Nat) (hid : id ≤ 1000) (hsz : ∀ x ∈ T, x.s.size ≤ maxLen) :
    Calls Tryz.prog 52 #[.pointer (some ⟨p, 0, none⟩), .int .i64 (id : Int)] w (RetB w (heldT T id)) := by
  have HK := Lib.hid (kind_any g T (id : Int) w h.rd h.i.kinds ⟨by omega, by omega⟩)
  have HLB := Lib.hid (fun wr (k : Gr w wr) => label_any g T (id : Int) wr (h.rd.mono k) h.i.kinds ⟨by omega, by omega⟩)
  have HH := Lib.hid (fun wr => handle_any id wr (by omega))
  have HC0 := Lib.hid (fun wr (k : Gr w wr) => (h.gr k).c0)
  have c0 := h.c0
  have hs : (labelT T (id : Int)).size ≤ maxLen := by
    unfold labelT
    split
    · exact Nat.zero_le _
    · split
      · next x hx =>
        split
        · exact hsz x (List.mem_of_getElem? hx)
        · exact Nat.zero_le _
      · exact Nat.zero_le _
  unfold heldT
  clear h
  by_cases hk : kindOf T (id : Int) = 2
  · rw [if_pos hk]
    rw [hk] at HK
    generalize labelT T (id : Int) = s at *
    obtain ⟨cf, wf, hcv0⟩ := conv2_fn (P := Tryz.prog) s 28 Tryz.underlying9 Tryz.underlying28 Tryz.underlying5 hs
    have hcv := fun W => (hcv0 W).1
    have HCV := Lib.hid (fun W => (hcv0 W).2)
    clear hcv0 hk hs
    go_enter Tryz.func52, Tryz.ntmps52
    go_wp2_with fail
    refine HK.out.mono ?_
    rintro e w1 ⟨rfl, g1⟩
    have G1 := Lib.hid g1
    have d0 := HC0.out w1 g1
    clear g1 c0
    go_wp2_with fail
    refine (HLB.out _ G1.out).mono ?_
    rintro e w2 ⟨rfl, g2⟩
    have G2 := Lib.hid (Gr.trans G1.out g2); clear g2
    go_wp2_with fail
    go_ret
    exact ⟨_, _, _, rfl, (HCV.out w2).1, Gr.trans G2.out (HCV.out w2).2⟩
  · rw [if_neg hk]
    obtain ⟨q, hq⟩ : ∃ q, q = kindOf T (id : Int) := ⟨_, rfl⟩
    rw [← hq] at HK hk
    have t1 : ((q : Int) == 2) = false := by rw [beq_eq_false_iff_ne]; omega
    clear hq
    go_enter Tryz.func52, Tryz.ntmps52
    go_wp2_with fail
    refine HK.out.mono ?_
    rintro e w1 ⟨rfl, g1⟩
    have G1 := Lib.hid g1; clear g1
    go_wp2_with fail
    refine (HH.out _).mono ?_
    rintro e w2 ⟨v2, rfl, o2⟩
    have G2 := Lib.hid (Gr.trans G1.out o2.below)
    obtain ⟨A2, c2, rfl, s2⟩ := o2.slice
    have S2 := Lib.hid s2
    clear o2 s2
    go_wp2_with fail
    go_ret
    exact ⟨_, _, _, rfl, S2.out, G2.out⟩
end
end Go.Proofs.YtcfbbgbjlgonpaaGreatDoor
