/- Own texts of this claim, one behind the other. No condition. -/
import Derived.Test.YtcfbbgbjlgonpaaGreatDoorObPkAD
import Derived.Test.YtcfbbgbjlgonpaaGreatDoorObPkAS
import Derived.Test.YtcfbbgbjlgonpaaGreatDoorObPkAY
import Derived.Test.YtcfbbgbjlgonpaaGreatDoorObPkBD

/- CRC: a byte, and sums. No condition. -/
namespace Go.Proofs.YtcfbbgbjlgonpaaGreatDoor
open Go.RowKit
set_option linter.unusedVariables false
set_option linter.unusedSimpArgs false
def stepsW (c : UInt32) : Nat → UInt32
  | 0 => c
  | k + 1 => stepW (stepsW c k)
def byteW (c : UInt32) (x : UInt8) : UInt32 := stepsW (c ^^^ x.toUInt32) 8
theorem un_byte (x : UInt8) : un x.toUInt32 = (x.toNat : Int) := by unfold un; rw [UInt8.toNat_toUInt32]
theorem w_byte (c : UInt32) (x : UInt8) : bits .xor .u32 (un c) (x.toNat : Int) = un (c ^^^ x.toUInt32) := by rw [← un_byte, w_xor]
def CrcAt (w w' : World) (p : Nat) (v : UInt32) : Prop := Blk w' p 119 [.int .u32 (un v)] ∧ Tch (fun b => b = p) w w'
set_option maxRecDepth 100000 in
set_option maxHeartbeats 1000000 in
theorem crcByte_any (p : Nat) (c : UInt32) (x : UInt8) (xi : Int) (hx : xi = (x.toNat : Int)) (w : World) (h : Blk w p 119 [.int .u32 (un c)]) :
    Calls Tryz.prog 147 #[.int .u8 xi, .pointer (some ⟨p, 0, none⟩)] w fun e w' => e = .returned (.tuple #[]) ∧ CrcAt w w' p (byteW c x) := by
  have x0 : 0 ≤ xi := by omega
  have x1 : xi < 256 := by have := x.toNat_lt; omega
  have e1 := w_byte c x
  rw [← hx] at e1
  have c0 := h.cell 0
  have f0 := h.free 0
  have HB := Lib.hid h
  have HC1 : Hid (CrcAt w (w.setCell ⟨p, 0, none⟩ (.int .u32 (un (c ^^^ x.toUInt32)))) p (stepsW (c ^^^ x.toUInt32) 0)) := ⟨h.set 0 _, Tch.set ⟨p, 0, none⟩ _ rfl⟩
  clear h hx
  go_enter Tryz.func147, Tryz.ntmps147
  go_wp2_with fail
  go_loopw [7] (fun i wr => ∃ k : Nat, k ≤ 8 ∧ i = .int .i64 (k : Int) ∧ CrcAt w wr p (stepsW (c ^^^ x.toUInt32) k)) (fun i _ => 8 - (Go.RowKit.intOf i).toNat)
  case atStart => exact ⟨0, Nat.zero_le _, rfl, HC1.out⟩
  case round =>
    obtain ⟨k, hk, rfl, hc⟩ := hrel
    have p0 : (0 : Int) ≤ k := by omega
    obtain ⟨v, hv⟩ : ∃ v, v = stepsW (c ^^^ x.toUInt32) k := ⟨_, rfl⟩
    rw [← hv] at hc
    have HV := Lib.hid hv
    have HC := Lib.hid hc
    have c1 := hc.1.cell 0
    have f1 := hc.1.free 0
    clear hc hv c0 f0
    by_cases hlt : k < 8
    · have t0 : decide ((k : Int) < 8) = true := decide_eq_true (by omega)
      go_wp2_with fail
      refine (crcStep_any v _).mono ?_
      rintro e w2 ⟨rfl, h2⟩
      rw [← h2]
      clear h2 w2
      go_wp2_with fail
      go_roundw
      case rel => exact ⟨k + 1, by omega, by go_num, by rw [stepsW, ← HV.out]; exact ⟨HC.out.1.set 0 _, HC.out.2.trans (Tch.set ⟨p, 0, none⟩ _ rfl)⟩⟩
      case measure => simp [Go.RowKit.intOf]; omega
    · have t0 : decide ((k : Int) < 8) = false := decide_eq_false (by omega)
      have hk8 : k = 8 := by omega
      subst hk8
      go_wp2_with fail
      go_end0
      refine ⟨rfl, ?_⟩
      unfold byteW
      rw [← HV.out]
      exact HC.out
end Go.Proofs.YtcfbbgbjlgonpaaGreatDoor

/- CRC: sums. No condition. -/
namespace Go.Proofs.YtcfbbgbjlgonpaaGreatDoor
open Go.RowKit
set_option linter.unusedVariables false
set_option linter.unusedSimpArgs false
def crcTo (c : UInt32) (l : List UInt8) : Nat → UInt32
  | 0 => c
  | k + 1 => byteW (crcTo c l k) (l.getD k 0)
def crcW (s : UInt32) (l : List UInt8) : UInt32 := crcTo (s ^^^ 4294967295) l l.length ^^^ 4294967295
def crcL (l : List UInt8) : List UInt8 := be (crcW 0 l).toNat 8
theorem w_all (c : UInt32) : bits .xor .u32 (un c) 4294967295 = un (c ^^^ 4294967295) := w_xor c 4294967295
set_option maxRecDepth 100000 in
set_option maxHeartbeats 1000000 in
theorem crcMore_any (s : UInt32) (A : Option Addr) (n c : Nat) (l : List UInt8) (w : World) (h : Bs w A n c l) :
    Calls Tryz.prog 117 #[.int .u32 (un s), .slice A n c] w fun e w' => e = .returned (.int .u32 (un (crcW s l))) ∧ Gr w w' := by
  have hl : l.length = n := h.len
  have hcp := Sl.cap h; have hmx := Sl.max h
  have e1 := w_all s
  obtain ⟨p, hp⟩ : ∃ p, p = w.heap.size := ⟨_, rfl⟩
  have HP := Lib.hid hp
  have HL := Lib.hid hl; have HB := Lib.hid h; have HCP := Lib.hid hcp; have HMX := Lib.hid hmx
  clear h hl hp
  go_enter Tryz.func117, Tryz.ntmps117
  go_wp2_with fail
  rw [← HP.out]
  go_loopw [14] (fun i wr => ∃ k : Nat, k ≤ n ∧ i = .int .i64 (k : Int) ∧ Gr w wr ∧ Blk wr p 119 [.int .u32 (un (crcTo (s ^^^ 4294967295) l k))]) (fun i _ => n - (Go.RowKit.intOf i).toNat)
  case atStart => exact ⟨0, Nat.zero_le _, rfl, by first | exact Gr.alloc _ _ | (rw [HP.out]; exact ((Below.refl _ _).alloc (Nat.le_refl _) _).setCell (Nat.le_refl _) _), by rw [HP.out]; first | exact Blk.new w _ _ | exact (Blk.new w _ _).set 0 _⟩
  case round =>
    obtain ⟨k, hk, rfl, g, hb⟩ := hrel
    have p0 : (0 : Int) ≤ k := by omega
    have HG := Lib.hid g
    have HC := Lib.hid hb
    have c1 := hb.cell 0
    clear g hb
    by_cases hlt : k < n
    · have t0 : decide ((k : Int) < (n : Int)) = true := decide_eq_true (by omega)
      obtain ⟨b, o, rfl, hcell⟩ := Sl.addr (HB.out.mono HG.out) (by omega)
      have cc := hcell k _ (u8c_at (l := l) (j := k) (by rw [HL.out]; exact hlt))
      clear hcell c1
      have HBY := Lib.hid (crcByte_any p (crcTo (s ^^^ 4294967295) l k) (l.getD k 0) (bAt l k) rfl wr HC.out)
      have hpw : Hid (w.heap.size ≤ wr.heap.size) := HG.out.size
      go_wp2_with fail
      refine HBY.out.mono ?_
      rintro e w2 ⟨rfl, hc2⟩
      have HC2 : Hid (Blk w2 p 119 [.int .u32 (un (crcTo (s ^^^ 4294967295) l (k + 1)))]) := hc2.1
      have HG2 : Hid (Gr w w2) := Tch.below HG.out hc2.2 hpw.out (fun b hb => by rw [hb, HP.out]; exact Nat.le_refl _)
      clear hc2 cc
      go_wp2_with fail
      go_roundw
      case rel => exact ⟨k + 1, by omega, by go_num, HG2.out, HC2.out⟩
      case measure => simp [Go.RowKit.intOf]; omega
    · have t0 : decide ((k : Int) < (n : Int)) = false := decide_eq_false (by omega)
      have e2 := w_all (crcTo (s ^^^ 4294967295) l k)
      have hkn : k = l.length := by rw [HL.out]; omega
      go_wp2_with fail
      go_ret
      refine ⟨?_, HG.out⟩
      unfold crcW
      rw [← hkn]
      exact congrArg (fun z => Ending.returned (.int .u32 z)) (w_all _)
theorem crcOf_any (A : Option Addr) (n c : Nat) (l : List UInt8) (w : World) (h : Bs w A n c l) :
    Calls Tryz.prog 86 #[.slice A n c] w fun e w' => e = .returned (.int .u32 (un (crcW 0 l))) ∧ Gr w w' := by
  have HM : Hid (Calls Tryz.prog 117 #[.int .u32 0, .slice A n c] w fun e w' => e = .returned (.int .u32 (un (crcW 0 l))) ∧ Gr w w') := crcMore_any 0 A n c l w h
  clear h
  go_enter Tryz.func86, Tryz.ntmps86
  go_wp2_with fail
  refine HM.out.mono ?_
  rintro e w1 ⟨rfl, g1⟩
  have G1 := Lib.hid g1
  clear g1
  go_wp2_with fail
  go_ret
  exact ⟨rfl, G1.out⟩
theorem crcBytes_any (A : Option Addr) (n c : Nat) (l : List UInt8) (w : World) (h : Bs w A n c l) :
    Calls Tryz.prog 53 #[.slice A n c] w (RetBs w (crcL l)) := by
  have HO := Lib.hid (crcOf_any A n c l w h)
  have u0 := un_nn (crcW 0 l)
  have u1 := un_lt (crcW 0 l)
  have HN : Hid (∀ w', Calls Tryz.prog 73 #[.int .u64 (un (crcW 0 l)), .int .i64 8] w' (RetBs w' (crcL l))) := fun w' => put_yes (crcW 0 l).toNat 8 w' (by have := u32_lt (crcW 0 l); omega) (by decide) (by decide)
  clear h
  go_enter Tryz.func53, Tryz.ntmps53
  go_wp2_with fail
  refine HO.out.mono ?_
  rintro e w1 ⟨rfl, g1⟩
  have G1 := Lib.hid g1
  clear g1
  go_wp2_with fail
  refine (HN.out w1).mono ?_
  rintro e w2 ⟨v2, rfl, o2⟩
  have O2 := Lib.hid (o2.base G1.out)
  clear o2
  go_wp2_with fail
  go_ret
  exact ⟨v2, rfl, O2.out⟩
end Go.Proofs.YtcfbbgbjlgonpaaGreatDoor

/- Real suites: Open, Sum, Check. No condition. -/
namespace Go.Proofs.YtcfbbgbjlgonpaaGreatDoor
open Go.RowKit
set_option linter.unusedVariables false
set_option linter.unusedSimpArgs false
def RetOpenR (w : World) (key b : List UInt8) (e : Ending) (w' : World) : Prop :=
  Gr w w' ∧ if sealedL key b = true then (∃ v, e = .returned (.tuple #[v, .bool true]) ∧ Own w w' 5 1 v (b.length - 48) ((openL key b).map u8c)) else e = .returned (.tuple #[.slice none 0 0, .bool false])
set_option maxRecDepth 100000 in
set_option maxHeartbeats 1000000 in
theorem realOpen_any (g : Nat) (A B : Option Addr) (c d m : Nat) (key b : List UInt8) (w : World) (h : RealS w g) (hk : Bs w A 32 c key) (hb : Bs w B m d b) (h48 : 48 ≤ m) (hm : m ≤ 30000) (hK : ShaK w) :
    Calls Tryz.prog 19 #[.pointer (some ⟨g, 0, none⟩), .slice A 32 c, .slice B m d] w (RetOpenR w key b) := by
  have HN := Lib.hid (none_any g w h)
  have HR := Lib.hid (real_any g w h)
  have HO := Lib.hid (boxOpen_some A B c d m key b w hk hb h48 hm hK)
  clear h hk hb hK
  go_enter Tryz.func19, Tryz.ntmps19
  go_wp2_with fail
  first | go_step3 | skip
  go_wp2_with fail
  refine HN.out.mono ?_
  rintro e w1 ⟨rfl, h1⟩
  rw [← h1]
  clear h1 w1
  go_wp2_with fail
  refine HR.out.mono ?_
  rintro e w1 ⟨rfl, h1⟩
  rw [← h1]
  clear h1 w1
  go_wp2_with fail
  refine HO.out.mono ?_
  rintro e w2 ⟨g2, ho⟩
  have G2 := Lib.hid g2
  clear g2
  unfold RetOpenR
  cases hq : sealedL key b
  · rw [hq] at ho
    replace ho : e = .returned (.tuple #[.slice none 0 0, .int .i64 11]) := by simpa using ho
    subst ho
    have HQ : Hid (¬ sealedL key b = true) := by show ¬ _; rw [hq]; decide
    clear hq
    go_wp2_with fail
    try rw [Exit.noGoto_ret]
    go_ret2
    exact ⟨G2.out, by rw [if_neg HQ.out]; rfl⟩
  · rw [hq, if_pos rfl] at ho
    obtain ⟨v, rfl, o⟩ := ho
    have O := Lib.hid o; have HQ := Lib.hid hq
    clear hq o
    go_wp2_with fail
    try rw [Exit.noGoto_ret]
    go_ret2
    exact ⟨G2.out, by rw [if_pos HQ.out]; exact ⟨v, rfl, O.out⟩⟩
set_option maxRecDepth 100000 in
set_option maxHeartbeats 1000000 in
theorem realSum_any (g : Nat) (A : Option Addr) (n c : Nat) (b : List UInt8) (w : World) (h : RealS w g) (hb : Bs w A n c b) :
    Calls Tryz.prog 21 #[.pointer (some ⟨g, 0, none⟩), .slice A n c] w (RetBs w (crcL b)) := by
  have HN := Lib.hid (none_any g w h)
  have HR := Lib.hid (real_any g w h)
  have HC := Lib.hid (crcBytes_any A n c b w hb)
  clear h hb
  go_enter Tryz.func21, Tryz.ntmps21
  go_wp2_with fail
  first | go_step3 | skip
  go_wp2_with fail
  refine HN.out.mono ?_
  rintro e w1 ⟨rfl, h1⟩
  rw [← h1]
  clear h1 w1
  go_wp2_with fail
  refine HR.out.mono ?_
  rintro e w1 ⟨rfl, h1⟩
  rw [← h1]
  clear h1 w1
  go_wp2_with fail
  refine HC.out.mono ?_
  rintro e w2 ⟨v, rfl, o⟩
  have O := Lib.hid o
  clear o
  go_wp2_with fail
  try rw [Exit.noGoto_ret]
  go_ret
  exact ⟨v, rfl, O.out⟩
set_option maxRecDepth 100000 in
set_option maxHeartbeats 1000000 in
theorem realCheck_any (g : Nat) (A B : Option Addr) (n c m d : Nat) (b i : List UInt8) (w : World) (h : RealS w g) (hb : Bs w A n c b) (hi : Bs w B m d i) :
    Calls Tryz.prog 20 #[.pointer (some ⟨g, 0, none⟩), .slice A n c, .slice B m d] w fun e w' => e = .returned (.bool (crcL b == i)) ∧ Gr w w' := by
  have HN := Lib.hid (none_any g w h)
  have HR := Lib.hid (real_any g w h)
  have HC := Lib.hid (crcBytes_any A n c b w hb)
  have HI := Lib.hid hi
  clear h hb hi
  go_enter Tryz.func20, Tryz.ntmps20
  go_wp2_with fail
  first | go_step3 | skip
  go_wp2_with fail
  refine HN.out.mono ?_
  rintro e w1 ⟨rfl, h1⟩
  rw [← h1]
  clear h1 w1
  go_wp2_with fail
  refine HR.out.mono ?_
  rintro e w1 ⟨rfl, h1⟩
  rw [← h1]
  clear h1 w1
  go_wp2_with fail
  refine HC.out.mono ?_
  rintro e w2 ⟨v, rfl, o⟩
  obtain ⟨A2, c2, rfl, s2⟩ := o.slice
  have G2 := Lib.hid o.below
  have HE := Lib.hid (same_any A2 B _ m c2 d (crcL b) i w2 s2 (HI.out.mono o.below))
  clear o s2
  go_wp2_with fail
  refine HE.out.mono ?_
  rintro e w3 ⟨rfl, h3⟩
  rw [← h3]
  clear h3 w3
  go_wp2_with fail
  try rw [Exit.noGoto_ret]
  go_ret
  exact ⟨rfl, G2.out⟩
end Go.Proofs.YtcfbbgbjlgonpaaGreatDoor

/- Real suites: Draw, Find, Terms. No condition. -/
namespace Go.Proofs.YtcfbbgbjlgonpaaGreatDoor
open Go.RowKit
set_option linter.unusedVariables false
set_option linter.unusedSimpArgs false
set_option maxRecDepth 100000 in
theorem RealW.draw {w : World} {g p : Nat} {A : Option Addr} {n c d : Nat} {seed : List UInt8} (h : RealW w g p A n c seed d) (hn : n ≤ 50000) (hd : d < 100) (hK : ShaK w) :
    Calls Tryz.prog 22 #[.pointer (some ⟨g, 0, none⟩)] w (RetRd (w.setCell ⟨p, 1, none⟩ (.int .i64 ((d : Int) + 1))) (drawL seed d)) := by
  have HN := Lib.hid (none_any g w h.real)
  have HR := Lib.hid (real_any g w h.real)
  have HD := Lib.hid (draw_any p A n c seed d w h.src hn hd hK h.np)
  have c2 := h.s
  clear h hK
  go_enter Tryz.func22, Tryz.ntmps22
  go_wp2_with fail
  first | go_step3 | skip
  go_wp2_with fail
  refine HN.out.mono ?_
  rintro e w1 ⟨rfl, h1⟩
  rw [← h1]
  clear h1 w1
  go_wp2_with fail
  refine HR.out.mono ?_
  rintro e w1 ⟨rfl, h1⟩
  rw [← h1]
  clear h1 w1
  go_wp2_with fail
  refine HD.out.mono ?_
  rintro e w2 ⟨A2, c2', rfl, s2, g2⟩
  have S2 := Lib.hid s2; have G2 := Lib.hid g2
  clear s2 g2
  go_wp2_with fail
  try rw [Exit.noGoto_ret]
  go_ret
  exact ⟨A2, c2', rfl, S2.out, G2.out⟩
theorem realFind_any (g : Nat) (A : Option Addr) (n c : Nat) (w : World) (h : RealS w g) : Calls Tryz.prog 25 #[.pointer (some ⟨g, 0, none⟩), .slice A n c] w fun e w' => e = .returned (.slice none 0 0) ∧ w = w' := by
  have HN := Lib.hid (none_any g w h)
  have HR := Lib.hid (real_any g w h)
  clear h
  go_enter Tryz.func25, Tryz.ntmps25
  go_wp2_with fail
  first | go_step3 | skip
  go_wp2_with fail
  refine HN.out.mono ?_
  rintro e w1 ⟨rfl, h1⟩
  rw [← h1]
  clear h1 w1
  go_wp2_with fail
  refine HR.out.mono ?_
  rintro e w1 ⟨rfl, h1⟩
  rw [← h1]
  clear h1 w1
  go_wp2_with fail
  try rw [Exit.noGoto_ret]
  go_ret
  exact ⟨rfl, rfl⟩
end Go.Proofs.YtcfbbgbjlgonpaaGreatDoor

/- Real suites: Mix; boxes that are refused. No condition. -/
namespace Go.Proofs.YtcfbbgbjlgonpaaGreatDoor
open Go.RowKit
set_option linter.unusedVariables false
set_option linter.unusedSimpArgs false
theorem exR_any (A B : Option Addr) (n c m d : Nat) (k t : List UInt8) (w : World) (h : Bs w A n c k) (hn : n ≤ 50000) (ht : Bs w B m d t) (hm : m ≤ 40000) (hK : ShaK w) :
    Calls Tryz.prog 90 #[.slice A n c, .slice B m d] w (RetBs w (macL k t)) := by
  have HM := Lib.hid (mac_any A B n c m d k t w h hn ht hm hK)
  clear h ht hK
  go_enter Tryz.func90, Tryz.ntmps90
  go_wp2_with fail
  refine HM.out.mono ?_
  rintro e w1 ⟨v, rfl, o⟩
  have O := Lib.hid o; clear o
  go_wp2_with fail
  go_ret
  exact ⟨v, rfl, O.out⟩
theorem kmR_any (A B : Option Addr) (n c m d : Nat) (k t : List UInt8) (w : World) (h : Bs w A n c k) (hn : n ≤ 50000) (ht : Bs w B m d t) (hm : m ≤ 40000) (hK : ShaK w) :
    Calls Tryz.prog 59 #[.slice A n c, .slice B m d] w (RetBs w (macL k t)) := by
  have HM := Lib.hid (exR_any A B n c m d k t w h hn ht hm hK)
  clear h ht hK
  go_enter Tryz.func59, Tryz.ntmps59
  go_wp2_with fail
  refine HM.out.mono ?_
  rintro e w1 ⟨v, rfl, o⟩
  have O := Lib.hid o; clear o
  go_wp2_with fail
  go_ret
  exact ⟨v, rfl, O.out⟩
theorem realMix_any (g : Nat) (A B : Option Addr) (n c m d : Nat) (k t : List UInt8) (w : World) (hr : RealS w g) (h : Bs w A n c k) (hn : n ≤ 50000) (ht : Bs w B m d t) (hm : m ≤ 40000) (hK : ShaK w) :
    Calls Tryz.prog 24 #[.pointer (some ⟨g, 0, none⟩), .slice A n c, .slice B m d] w (RetBs w (macL k t)) := by
  have HN := Lib.hid (none_any g w hr)
  have HR := Lib.hid (real_any g w hr)
  have HM := Lib.hid (kmR_any A B n c m d k t w h hn ht hm hK)
  clear h ht hK hr
  go_enter Tryz.func24, Tryz.ntmps24
  go_wp2_with fail
  first | go_step3 | skip
  go_wp2_with fail
  refine HN.out.mono ?_
  rintro e w1 ⟨rfl, h1⟩
  rw [← h1]
  clear h1 w1
  go_wp2_with fail
  refine HR.out.mono ?_
  rintro e w1 ⟨rfl, h1⟩
  rw [← h1]
  clear h1 w1
  go_wp2_with fail
  refine HM.out.mono ?_
  rintro e w2 ⟨v, rfl, o⟩
  have O := Lib.hid o; clear o
  go_wp2_with fail
  try rw [Exit.noGoto_ret]
  go_ret
  exact ⟨v, rfl, O.out⟩
theorem boxOpen_not (A B : Option Addr) (n c m d : Nat) (w : World) (h : n ≠ 32 ∨ m < 48) (h1 : n ≤ c) (h2 : c ≤ 9223372036854775807) (h3 : m ≤ d) (h4 : d ≤ 9223372036854775807) :
    Calls Tryz.prog 50 #[.slice A n c, .slice B m d] w fun e w' => e = .returned (.tuple #[.slice none 0 0, .int .i64 4]) ∧ w = w' := by
  by_cases h32 : n = 32
  · subst h32
    have hm : m < 48 := by omega
    have t1 : decide ((m : Int) < 48) = true := decide_eq_true (by omega)
    have HS0 : Hid (∀ wr, Calls Tryz.prog 49 #[.int .i64 0] wr fun e w' => e = .returned (.int .i64 48) ∧ w' = wr) := fun wr => by
      have k := boxSize_any 0 wr (by omega)
      rw [show ((0 + 48 : Nat) : Int) = 48 by omega, show ((0 : Nat) : Int) = 0 by omega] at k
      exact k
    clear h
    go_enter Tryz.func50, Tryz.ntmps50
    go_wp2_with fail
    refine (HS0.out _).mono ?_
    rintro e w1 ⟨rfl, h1⟩
    rw [h1]
    clear h1 w1
    go_wp2_with fail
    go_ret2
    exact ⟨rfl, rfl⟩
  · have t1 : ((n : Int) != 32) = true := by rw [bne_iff_ne]; omega
    clear h
    go_enter Tryz.func50, Tryz.ntmps50
    go_wp2_with fail
    go_ret2
    exact ⟨rfl, rfl⟩
theorem realOpen_not (g : Nat) (A B : Option Addr) (n c m d : Nat) (w : World) (hr : RealS w g) (h : n ≠ 32 ∨ m < 48) (h1 : n ≤ c) (h2 : c ≤ 9223372036854775807) (h3 : m ≤ d) (h4 : d ≤ 9223372036854775807) :
    Calls Tryz.prog 19 #[.pointer (some ⟨g, 0, none⟩), .slice A n c, .slice B m d] w fun e w' => e = .returned (.tuple #[.slice none 0 0, .bool false]) ∧ w = w' := by
  have HN := Lib.hid (none_any g w hr)
  have HR := Lib.hid (real_any g w hr)
  have HO := Lib.hid (boxOpen_not A B n c m d w h h1 h2 h3 h4)
  clear h hr
  go_enter Tryz.func19, Tryz.ntmps19
  go_wp2_with fail
  first | go_step3 | skip
  go_wp2_with fail
  refine HN.out.mono ?_
  rintro e w1 ⟨rfl, h1⟩
  rw [← h1]
  clear h1 w1
  go_wp2_with fail
  refine HR.out.mono ?_
  rintro e w1 ⟨rfl, h1⟩
  rw [← h1]
  clear h1 w1
  go_wp2_with fail
  refine HO.out.mono ?_
  rintro e w2 ⟨rfl, h2⟩
  rw [← h2]
  clear h2 w2
  go_wp2_with fail
  try rw [Exit.noGoto_ret]
  go_ret2
  exact ⟨rfl, rfl⟩
end Go.Proofs.YtcfbbgbjlgonpaaGreatDoor

/- Real suites: Seal refused. No condition. -/
namespace Go.Proofs.YtcfbbgbjlgonpaaGreatDoor
open Go.RowKit
set_option linter.unusedVariables false
set_option linter.unusedSimpArgs false
theorem realSeal_not (g : Nat) (A B : Option Addr) (n c m d : Nat) (w : World) (hr : RealS w g) (h : n ≠ 32) (h1 : n ≤ c) (h2 : c ≤ 9223372036854775807) :
    Calls Tryz.prog 18 #[.pointer (some ⟨g, 0, none⟩), .slice A n c, .slice B m d] w fun e w' => e = .returned (.slice none 0 0) ∧ w = w' := by
  have HN := Lib.hid (none_any g w hr)
  have t1 : ((n : Int) != 32) = true := by rw [bne_iff_ne]; omega
  clear hr
  go_enter Tryz.func18, Tryz.ntmps18
  go_wp2_with fail
  first | go_step3 | skip
  go_wp2_with fail
  refine HN.out.mono ?_
  rintro e w1 ⟨rfl, h1⟩
  rw [← h1]
  clear h1 w1
  go_wp2_with fail
  try rw [Exit.noGoto_ret]
  go_ret
  exact ⟨rfl, rfl⟩
theorem nilLen_any (w : World) : Calls Tryz.prog 11 #[.pointer none] w fun e w' => e = .returned (.int .i64 0) ∧ w = w' := by
  go_enter Tryz.func11, Tryz.ntmps11
  go_wp2_with fail
  go_ret
  exact ⟨rfl, rfl⟩
theorem realTerms_any (g : Nat) (w : World) (hr : RealS w g) (h0 : w.cell? ⟨g, 0, none⟩ = some (.pointer none)) :
    Calls Tryz.prog 10 #[.pointer (some ⟨g, 0, none⟩)] w fun e w' => e = .returned (.pointer none) ∧ w = w' := by
  have HN := Lib.hid (none_any g w hr)
  clear hr
  go_enter Tryz.func10, Tryz.ntmps10
  go_wp2_with fail
  refine HN.out.mono ?_
  rintro e w1 ⟨rfl, h1⟩
  rw [← h1]
  clear h1 w1
  go_wp2_with fail
  go_ret
  exact ⟨rfl, rfl⟩
end Go.Proofs.YtcfbbgbjlgonpaaGreatDoor

/- Real suites: Handle, Term. No condition. -/
namespace Go.Proofs.YtcfbbgbjlgonpaaGreatDoor
open Go.RowKit
set_option linter.unusedVariables false
set_option linter.unusedSimpArgs false
theorem nilThere_any (A : Option Addr) (n c : Nat) (w : World) : Calls Tryz.prog 35 #[.pointer none, .slice A n c] w fun e w' => e = .returned (.bool false) ∧ Gr w w' := by
  go_enter Tryz.func35, Tryz.ntmps35
  go_wp2_with fail
  go_ret
  exact ⟨rfl, (Below.refl _ _).alloc (Nat.le_refl _) _⟩
theorem nilKind_any (i : Int) (w : World) : Calls Tryz.prog 13 #[.pointer none, .int .i64 i] w fun e w' => e = .returned (.int .i64 0) ∧ Gr w w' := by
  obtain ⟨Q, hQ⟩ : ∃ Q : World → Prop, Q = fun w' => Gr w w' := ⟨_, rfl⟩
  show Calls _ _ _ _ fun e w' => e = .returned (.int .i64 0) ∧ Gr w w'
  rw [show (fun (e : Ending) (w' : World) => e = .returned (.int .i64 0) ∧ Gr w w') = fun e w' => e = .returned (.int .i64 0) ∧ Q w' by rw [hQ]]
  have HQ := Lib.hid hQ; clear hQ
  go_enter Tryz.func13, Tryz.ntmps13
  go_wp2_with fail
  refine (nilThere_any _ _ _ _).mono ?_
  rintro e w1 ⟨rfl, g1⟩
  have G1 := Lib.hid (show Q w1 by rw [HQ.out]; exact Gr.trans (by first | exact Gr.refl _ | exact (Gr.alloc _ _).trans (Gr.alloc _ _) | exact Gr.alloc _ _) g1); clear g1
  go_wp2_with fail
  go_ret
  exact ⟨rfl, G1.out⟩
theorem realBears_any (g : Nat) (i : Int) (w : World) (h0 : w.cell? ⟨g, 0, none⟩ = some (.pointer none)) : Calls Tryz.prog 33 #[.pointer (some ⟨g, 0, none⟩), .int .i64 i] w fun e w' => e = .returned (.bool false) ∧ Gr w w' := by
  go_enter Tryz.func33, Tryz.ntmps33
  go_wp2_with fail
  refine (nilKind_any _ _).mono ?_
  rintro e w1 ⟨rfl, g1⟩
  have G1 := Lib.hid g1; clear g1
  go_wp2_with fail
  go_ret
  exact ⟨rfl, G1.out⟩
theorem realHandle_any (g : Nat) (i : Int) (w : World) (hr : RealS w g) (h0 : w.cell? ⟨g, 0, none⟩ = some (.pointer none)) : Calls Tryz.prog 12 #[.pointer (some ⟨g, 0, none⟩), .int .i64 i] w fun e w' => e = .returned (.slice none 0 0) ∧ Gr w w' := by
  have HN := Lib.hid (none_any g w hr)
  have HB := Lib.hid (realBears_any g i w h0)
  clear hr h0
  go_enter Tryz.func12, Tryz.ntmps12
  go_wp2_with fail
  refine HN.out.mono ?_
  rintro e w1 ⟨rfl, h1⟩
  rw [← h1]
  clear h1 w1
  go_wp2_with fail
  refine HB.out.mono ?_
  rintro e w1 ⟨rfl, g1⟩
  have G1 := Lib.hid g1; clear g1
  go_wp2_with fail
  go_ret
  exact ⟨rfl, G1.out⟩
set_option maxRecDepth 100000 in
set_option maxHeartbeats 2000000 in
theorem realTerm_any (g : Nat) (A : Option Addr) (n c : Nat) (b : List UInt8) (w : World) (hr : RealS w g) (h0 : w.cell? ⟨g, 0, none⟩ = some (.pointer none)) (hb : Bs w A n c b) :
    Calls Tryz.prog 14 #[.pointer (some ⟨g, 0, none⟩), .slice A n c] w fun e w' => e = .returned (.int .i64 0) ∧ Gr w w' := by
  have HN := Lib.hid (none_any g w hr)
  have hl : b.length = n := by have := hb.len; simpa using this
  have hcp := hb.cap; have hmx := hb.max
  by_cases h32 : n = 32
  · subst h32
    have HPX := Lib.hid (hasPrefix_any A (some ⟨w.heap.size, 0, none⟩) 32 8 c 8 b magicL (w.alloc magicO) (hb.mono (Gr.alloc _ _)) (magic_sl w) (by omega))
    have HG := Lib.hid (Gr.alloc w magicO)
    have hcv := fun (W : World) (C : Array Value) (n c : Nat) => Lib.run_convert_bytes_const (P := Tryz.prog) W 28 5 C n c Tryz.underlying28 Tryz.underlying5
    have c0 : (w.alloc magicO).cell? ⟨g, 0, none⟩ = some (.pointer none) := (HG.out.cell (World.block_lt_of_cell? w _ h0)).trans h0
    by_cases hm : b.take 8 = magicL
    · rw [hm] at HPX
      have tm : (magicL == magicL) = true := by decide
      rw [tm] at HPX
      obtain ⟨bb, oo, rfl, hcc⟩ := hb.addr (by omega)
      have hsub : Bs w (some ⟨bb, oo + 8, none⟩) 8 (c - 8) ((b.drop 8).take 8) := by
        have h1 := hb.from (A' := some ⟨bb, oo + 8, none⟩) (k := 8) (by omega) (fun _ b' o' e => by injection e with e; injection e with e1 e2; subst e1 e2; rfl)
        have h2 := h1.upto (k := 8) (by omega)
        rwa [← List.map_drop, ← List.map_take] at h2
      have HGT := Lib.hid (get_any (some ⟨bb, oo + 8, none⟩) 8 (c - 8) ((b.drop 8).take 8) (w.alloc magicO) (hsub.mono (Gr.alloc _ _)))
      have hlen8 : ((b.drop 8).take 8).length = 8 := by simp; omega
      have e1 : getS ((b.drop 8).take 8) = getL ((b.drop 8).take 8) := if_pos ⟨by omega, by omega⟩
      rw [e1] at HGT
      clear e1 hlen8 hsub hcc hb hr h0 hm tm
      generalize getL ((b.drop 8).take 8) = q at *
      by_cases h1 : q < 1
      · have t1 : decide ((q : Int) < 1) = true := decide_eq_true (by omega)
        go_enter Tryz.func14, Tryz.ntmps14
        go_wp2_with fail
        refine HN.out.mono ?_
        rintro e w1 ⟨rfl, h1⟩
        rw [← h1]
        clear h1 w1
        go_wp2_with fail
        refine HPX.out.mono ?_
        rintro e w2 ⟨rfl, h2⟩
        rw [← h2]
        clear h2 w2
        go_wp2_with fail
        refine HGT.out.mono ?_
        rintro e w3 ⟨rfl, h3⟩
        rw [← h3]
        clear h3 w3
        go_wp2_with fail
        go_ret
        exact ⟨rfl, HG.out⟩
      have t1 : decide ((q : Int) < 1) = false := decide_eq_false (by omega)
      have t2 : decide ((0 : Int) < (q : Int)) = true := decide_eq_true (by omega)
      go_enter Tryz.func14, Tryz.ntmps14
      go_wp2_with fail
      refine HN.out.mono ?_
      rintro e w1 ⟨rfl, h1⟩
      rw [← h1]
      clear h1 w1
      go_wp2_with fail
      refine HPX.out.mono ?_
      rintro e w2 ⟨rfl, h2⟩
      rw [← h2]
      clear h2 w2
      go_wp2_with fail
      refine HGT.out.mono ?_
      rintro e w3 ⟨rfl, h3⟩
      rw [← h3]
      clear h3 w3
      go_wp2_with fail
      refine (nilLen_any _).mono ?_
      rintro e w4 ⟨rfl, h4⟩
      rw [← h4]
      clear h4 w4
      go_wp2_with fail
      go_ret
      exact ⟨rfl, HG.out⟩
    · have tm : (b.take 8 == magicL) = false := by rw [beq_eq_false_iff_ne]; exact hm
      rw [tm] at HPX
      clear hr h0 hb tm
      go_enter Tryz.func14, Tryz.ntmps14
      go_wp2_with fail
      refine HN.out.mono ?_
      rintro e w1 ⟨rfl, h1⟩
      rw [← h1]
      clear h1 w1
      go_wp2_with fail
      refine HPX.out.mono ?_
      rintro e w2 ⟨rfl, h2⟩
      rw [← h2]
      clear h2 w2
      go_wp2_with fail
      go_ret
      exact ⟨rfl, HG.out⟩
  · have t1 : ((n : Int) != 32) = true := by rw [bne_iff_ne]; omega
    clear hr h0 hb
    go_enter Tryz.func14, Tryz.ntmps14
    go_wp2_with fail
    refine HN.out.mono ?_
    rintro e w1 ⟨rfl, h1⟩
    rw [← h1]
    clear h1 w1
    go_wp2_with fail
    go_ret
    exact ⟨rfl, Gr.refl _⟩
end Go.Proofs.YtcfbbgbjlgonpaaGreatDoor
