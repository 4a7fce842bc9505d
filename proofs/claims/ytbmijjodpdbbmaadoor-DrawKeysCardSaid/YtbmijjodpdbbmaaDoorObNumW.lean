import Derived.Test.YtbmijjodpdbbmaaDoorObNumL
import Derived.Test.YtbmijjodpdbbmaaDoorObBits
import Derived.Test.YtbmijjodpdbbmaaDoorProg
import Derived.Outline
import Derived.Deep.QuietTactic
import Derived.BigQuiet
namespace Go.Proofs.YtbmijjodpdbbmaaDoor
open Go.RowKit
set_option linter.unusedVariables false

theorem tBytes : ElemT Tryd.prog 22 5 (.int .u8 0) 1 1 := ⟨Tryd.underlying22, by kernel_rfl, rfl, by decide, by decide⟩

def RetBs (w : World) (l : List UInt8) (e : Ending) (w' : World) : Prop := ∃ v, e = .returned v ∧ Own w w' 5 1 v l.length (l.map u8c)

set_option maxHeartbeats 400000 in
theorem refGet_yes (A : Option Addr) (n c : Nat) (l : List UInt8) (w : World) (h : Bs w A n c l) (h1 : 1 ≤ n) (h8 : n ≤ 8) :
    Calls Tryd.prog 159 #[.slice A n c] w fun e w' => e = .returned (.tuple #[.int .u64 (getL l), .int .i64 0]) ∧ w = w' := by
  have hc := h.cap
  have hm := h.max
  have HL := Lib.hid h.len
  obtain ⟨b, o, rfl, hcell⟩ := h.addr (by omega)
  have HC := Lib.hid hcell; clear hcell h
  have t1 : decide ((n : Int) < 1) = false := by simp; omega
  have t2 : decide (8 < (n : Int)) = false := by simp; omega
  go_enter Tryd.func159, Tryd.ntmps159
  go_wp2
  clear t1 t2
  go_loop [4, 5] (fun a i => ∃ k : Nat, k ≤ n ∧ i = .int .i64 k ∧ a = .int .u64 (getL (l.take k))) (fun _ i => n - (intOf i).toNat)
  case atStart => exact ⟨0, Nat.zero_le _, rfl, rfl⟩
  case round =>
    obtain ⟨k, hk, rfl, rfl⟩ := hrel
    by_cases hlt : k < n
    · have hcell := HC.out k hlt
      have hb := getL_take_lt l k (by omega)
      have hb2 := bAt_nn l k
      have hb3 := bAt_lt l k
      have HS := Lib.hid (getL_take l k (by rw [HL.out]; exact hlt))
      go_wp2
      go_round
      case rel => exact ⟨k + 1, by omega, by go_num, by rw [HS.out]⟩
      case measure => simp [intOf]; omega
    · obtain rfl : k = n := by omega
      go_wp2
      go_ret2
      refine ⟨?_, rfl⟩
      show Ending.returned (.tuple #[.int .u64 (getL (l.take k)), .int .i64 0]) = _
      rw [List.take_of_length_le (by rw [HL.out]; omega)]

theorem refGet_no (A : Option Addr) (n c : Nat) (w : World) (hm : n ≤ 9223372036854775807) (h : n < 1 ∨ 8 < n) :
    Calls Tryd.prog 159 #[.slice A n c] w fun e w' => e = .returned (.tuple #[.int .u64 0, .int .i64 4]) ∧ w = w' := by
  rcases h with h | h
  · have t1 : decide ((n : Int) < 1) = true := by simp; omega
    go_enter Tryd.func159, Tryd.ntmps159
    go_wp2
    go_ret2
    exact ⟨rfl, rfl⟩
  · have t1 : decide ((n : Int) < 1) = false := by simp; omega
    have t2 : decide (8 < (n : Int)) = true := by simp; omega
    go_enter Tryd.func159, Tryd.ntmps159
    go_wp2
    go_ret2
    exact ⟨rfl, rfl⟩

set_option maxHeartbeats 400000 in
theorem get_yes (A : Option Addr) (n c : Nat) (l : List UInt8) (w : World) (h : Bs w A n c l) (h1 : 1 ≤ n) (h8 : n ≤ 8) :
    Calls Tryd.prog 118 #[.slice A n c] w fun e w' => e = .returned (.tuple #[.int .u64 (getL l), .int .i64 0]) ∧ w = w' := by
  have hc := h.cap
  have hm := h.max
  have HL := Lib.hid h.len
  obtain ⟨b, o, rfl, hcell⟩ := h.addr (by omega)
  have HC := Lib.hid hcell; clear hcell h
  have t1 : ((n : Int) == 0) = false := by simp; omega
  have t2 : decide (8 < (n : Int)) = false := by simp; omega
  go_enter Tryd.func118, Tryd.ntmps118
  go_wp2
  clear t1 t2
  go_loop [2, 16] (fun a i => ∃ k : Nat, k ≤ n ∧ i = .int .i64 k ∧ a = .int .u64 (getL (l.take k))) (fun _ i => n - (intOf i).toNat)
  case atStart => exact ⟨0, Nat.zero_le _, rfl, rfl⟩
  case round =>
    obtain ⟨k, hk, rfl, rfl⟩ := hrel
    by_cases hlt : k < n
    · have hcell := HC.out k hlt
      have hb := getL_take_lt l k (by omega)
      have hb2 := bAt_nn l k
      have hb3 := bAt_lt l k
      have HS := Lib.hid (getL_take l k (by rw [HL.out]; exact hlt))
      go_wp2
      go_round
      case rel => exact ⟨k + 1, by omega, by go_num, by rw [HS.out, u64_or_byte _ _ hb2 hb3 hb]⟩
      case measure => simp [intOf]; omega
    · obtain rfl : k = n := by omega
      go_wp2
      go_ret2
      refine ⟨?_, rfl⟩
      show Ending.returned (.tuple #[.int .u64 (getL (l.take k)), .int .i64 0]) = _
      rw [List.take_of_length_le (by rw [HL.out]; omega)]

theorem get_no (A : Option Addr) (n c : Nat) (w : World) (hm : n ≤ 9223372036854775807) (h : n < 1 ∨ 8 < n) :
    Calls Tryd.prog 118 #[.slice A n c] w fun e w' => e = .returned (.tuple #[.int .u64 0, .int .i64 4]) ∧ w = w' := by
  rcases h with h | h
  · have t1 : ((n : Int) == 0) = true := by simp; omega
    go_enter Tryd.func118, Tryd.ntmps118
    go_wp2
    go_ret2
    exact ⟨rfl, rfl⟩
  · have t1 : ((n : Int) == 0) = false := by simp; omega
    have t2 : decide (8 < (n : Int)) = true := by simp; omega
    go_enter Tryd.func118, Tryd.ntmps118
    go_wp2
    go_ret2
    exact ⟨rfl, rfl⟩

set_option maxHeartbeats 400000 in
theorem put_yes (n : Nat) (size : Nat) (w : World) (hn : n < 18446744073709551616) (h1 : 1 ≤ size) (h8 : size ≤ 8) :
    Calls Tryd.prog 88 #[.int .u64 n, .int .i64 size] w (RetBs w (be n size)) := by
  have t1 : decide ((size : Int) < 1) = false := by simp; omega
  have t2 : decide (8 < (size : Int)) = false := by simp; omega
  go_enter Tryd.func88, Tryd.ntmps88
  go_wp2
  go_step3
  go_wp2
  go_step3
  go_wp2
  clear t1 t2
  go_loopw [4, 5] (fun v i wr => ∃ k : Nat, k ≤ size ∧ i = .int .i64 (size - 1 - k : Int) ∧ Own w wr 5 1 v k ((putTo n size k).map u8c)) (fun _ i _ => (intOf i + 1).toNat)
  case atStart => exact ⟨0, Nat.zero_le _, by go_num, Own.nil _ _ _⟩
  case round =>
    obtain ⟨k, hk, rfl, hown⟩ := hrel
    by_cases hlt : k < size
    · go_wp2_with (at_builtin; refine wpList_push rfl _ _ 22 rfl tBytes rfl hown #[_] rfl rfl (by intro u hu; simp at hu; subst hu; rfl) (by omega) ?_; intro v1 w1 hown1)
      go_roundw
      case rel =>
        exact ⟨k + 1, by omega, by go_num, by rw [putTo_cell _ _ _ hlt]; exact hown1⟩
      case measure => simp [intOf]; omega
    · obtain rfl : k = size := by omega
      go_wp2
      rw [Exit.noGoto_ret]
      go_ret
      rw [putTo_all] at hown
      exact ⟨_, rfl, by rw [be_length]; exact hown⟩

theorem put_no (n size : Int) (w : World) (h : size < 1 ∨ 8 < size) :
    Calls Tryd.prog 88 #[.int .u64 n, .int .i64 size] w (RetBs w []) := by
  have fin : RetBs w [] (.returned (.slice none 0 0)) w := ⟨_, rfl, Own.nil _ _ _⟩
  rcases h with h | h
  · have t1 : decide (size < 1) = true := by simpa using h
    go_enter Tryd.func88, Tryd.ntmps88
    go_wp2
    go_step3
    go_wp2
    rw [Exit.noGoto_ret]
    go_ret
    exact fin
  · have t1 : decide (size < 1) = false := by simp; omega
    have t2 : decide (8 < size) = true := by simpa using h
    go_enter Tryd.func88, Tryd.ntmps88
    go_wp2
    go_step3
    go_wp2
    rw [Exit.noGoto_ret]
    go_ret
    exact fin

theorem refPut_no (n size : Int) (w : World) (h : size < 1 ∨ 8 < size) :
    Calls Tryd.prog 125 #[.int .u64 n, .int .i64 size] w (RetBs w []) := by
  have fin : RetBs w [] (.returned (.slice none 0 0)) w := ⟨_, rfl, Own.nil _ _ _⟩
  rcases h with h | h
  · have t1 : decide (size < 1) = true := by simpa using h
    go_enter Tryd.func125, Tryd.ntmps125
    go_wp2
    go_ret
    exact fin
  · have t1 : decide (size < 1) = false := by simp; omega
    have t2 : decide (8 < size) = true := by simpa using h
    go_enter Tryd.func125, Tryd.ntmps125
    go_wp2
    go_ret
    exact fin

set_option maxHeartbeats 400000 in
theorem refPut_yes (n : Nat) (size : Nat) (w : World) (hn : n < 18446744073709551616) (h1 : 1 ≤ size) (h8 : size ≤ 8) :
    Calls Tryd.prog 125 #[.int .u64 n, .int .i64 size] w (RetBs w (be n size)) := by
  have t1 : decide ((size : Int) < 1) = false := by simp; omega
  have t2 : decide (8 < (size : Int)) = false := by simp; omega
  have hmk := fun w => run_mk tBytes rfl size (by omega) w
  go_enter Tryd.func125, Tryd.ntmps125
  go_wp2
  clear t1 t2 hmk
  go_loopw [0, 6] (fun x i wr => ∃ k : Nat, k ≤ size ∧ i = .int .i64 (k - 1 : Int) ∧ x = .int .u64 ((n / 256 ^ (size - k) : Nat) : Int) ∧ Blk wr w.heap.size 5 (putFrom n size k) ∧ Below w.heap.size w wr) (fun _ i _ => (intOf i + 1).toNat)
  case atStart => exact ⟨size, Nat.le_refl _, by go_num, by simp, by rw [putFrom_all]; exact Blk.new _ _ _, (Below.refl _ _).alloc (Nat.le_refl _) _⟩
  case round =>
    obtain ⟨k, hk, rfl, rfl, hblk, hbel⟩ := hrel
    by_cases hlt : 0 < k
    · obtain ⟨k, rfl⟩ : ∃ j, k = j + 1 := ⟨k - 1, by omega⟩
      have hc := hblk.cell k
      rw [putFrom_at n size (k + 1) k (by omega) (by omega)] at hc
      have hf := hblk.free k
      have HB := Lib.hid hblk; clear hblk
      have HP := Lib.hid (putFrom_set n size k (by omega))
      have hxl := shift_lt n (size - (k + 1)) hn
      have HS := Lib.hid (shift_succ n size k hk)
      have e1 : size - 1 - k = size - (k + 1) := by omega
      have HE := Lib.hid e1; clear e1
      generalize hx : n / 256 ^ (size - (k + 1)) = x at *
      have HX := Lib.hid hx; clear hx
      go_wp2
      go_roundw
      case rel =>
        refine ⟨k, by omega, by go_num, by rw [HS.out], ?_, hbel.setCell (Nat.le_refl _) _⟩
        have h := HB.out.set k (.int .u8 ((x : Int) % 256))
        have h2 := HP.out
        rw [HE.out, HX.out] at h2
        rw [h2] at h
        exact h
      case measure => simp [intOf]
    · obtain rfl : k = 0 := by omega
      go_wp2
      go_ret
      rw [putFrom_zero] at hblk
      exact ⟨_, rfl, by rw [be_length]; exact hblk.own (Nat.le_refl _) hbel (by simp [be_length]) (by simp only [maxLen]; omega)⟩

/-! ### are bytes the same? -/
set_option maxHeartbeats 400000 in
theorem refSame_any (A B : Option Addr) (n m c d : Nat) (a b : List UInt8) (w : World) (ha : Bs w A n c a) (hb : Bs w B m d b) :
    Calls Tryd.prog 16 #[.slice A n c, .slice B m d] w fun e w' => e = .returned (.bool (a == b)) ∧ ∃ k, w' = w.drewN k := by
  have hla := ha.len
  have hlb := hb.len
  have ma := ha.max
  have mb := hb.max
  have ca := ha.cap
  have cb := hb.cap
  by_cases hnm : n = m
  · subst hnm
    have HA := Lib.hid ha; have HB := Lib.hid hb; clear ha hb
    have HLA := Lib.hid hla; have HLB := Lib.hid hlb; clear hla hlb
    have t1 : ((n : Int) != (n : Int)) = false := by simp
    go_enter Tryd.func16, Tryd.ntmps16
    go_wp2
    clear t1
    go_loopw [5] (fun i wr => ∃ k q : Nat, k ≤ n ∧ i = .int .i64 k ∧ wr = w.drewN q ∧ a.take k = b.take k) (fun i _ => n - (intOf i).toNat)
    case atStart => exact ⟨0, 0, Nat.zero_le _, rfl, rfl, rfl⟩
    case round =>
      obtain ⟨k, q, hk, rfl, rfl, hsame⟩ := hrel
      have HSM := Lib.hid hsame; clear hsame
      by_cases hlt : k < n
      · obtain ⟨b1, o1, rfl, hc1⟩ := HA.out.addr (by omega)
        obtain ⟨b2, o2, rfl, hc2⟩ := HB.out.addr (by omega)
        have c1 : w.cell? ⟨b1, o1 + k, none⟩ = some _ := hc1 k hlt
        have c2 : w.cell? ⟨b2, o2 + k, none⟩ = some _ := hc2 k hlt
        have HC1 := Lib.hid hc1; have HC2 := Lib.hid hc2; clear hc1 hc2
        by_cases he : bAt a k = bAt b k
        · have t1 : (bAt a k != bAt b k) = false := by simp [he]
          have HE := Lib.hid he; clear he
          go_wp2
          go_quiet (fail)
          go_wp2
          go_roundw
          case rel => exact ⟨k + 1, _, by omega, by go_num, rfl, take_same (by rw [HLA.out]; exact hlt) (by rw [HLB.out]; exact hlt) HSM.out HE.out⟩
          case measure => simp [intOf]; omega
        · have t1 : (bAt a k != bAt b k) = true := by simpa using he
          have HE := Lib.hid (ne_of_bAt he); clear he
          go_wp2
          go_quiet (fail)
          go_wp2
          go_ret
          exact ⟨ret_bool HE.out.symm, _, World.drewN_drewN _ _ _⟩
      · obtain rfl : k = n := by omega
        have HE : Hid ((a == b) = true) := by
          have h := HSM.out
          rw [List.take_of_length_le (by rw [HLA.out]; omega), List.take_of_length_le (by rw [HLB.out]; omega)] at h
          exact beq_iff_eq.2 h
        go_wp2
        go_ret
        exact ⟨ret_bool HE.out.symm, _, rfl⟩
  · have t1 : ((n : Int) != (m : Int)) = true := by rw [bne_iff_ne]; omega
    have HE : Hid ((a == b) = false) := by
      apply beq_eq_false_iff_ne.2
      rintro rfl
      omega
    clear ha hb
    go_enter Tryd.func16, Tryd.ntmps16
    go_wp2
    go_ret
    exact ⟨ret_bool HE.out.symm, 0, rfl⟩

theorem refSame_b (A B : Option Addr) (n m c d : Nat) (a b : List UInt8) (w : World) (ha : Bs w A n c a) (hb : Bs w B m d b) :
    Calls Tryd.prog 16 #[.slice A n c, .slice B m d] w fun e w' => e = .returned (.bool (a == b)) ∧ Below w.heap.size w w' :=
  (refSame_any A B n m c d a b w ha hb).mono fun _ _ ⟨he, k, hk⟩ => ⟨he, by rw [hk]; exact belowN (Below.refl _ _) k⟩

/-! ### the chapter's example -/
/-! ### every input -/
def putS (n size : Int) : List UInt8 := if 1 ≤ size ∧ size ≤ 8 then be n.toNat size.toNat else []
def getS (l : List UInt8) : Nat := if 1 ≤ l.length ∧ l.length ≤ 8 then getL l else 0
def getF (l : List UInt8) : Int := if 1 ≤ l.length ∧ l.length ≤ 8 then 0 else 4

theorem put_any (n size : Int) (w : World) (h0 : 0 ≤ n) (hn : n < 18446744073709551616) : Calls Tryd.prog 88 #[.int .u64 n, .int .i64 size] w (RetBs w (putS n size)) := by
  unfold putS
  by_cases h : 1 ≤ size ∧ size ≤ 8
  · rw [if_pos h]
    obtain ⟨n, rfl⟩ := Int.eq_ofNat_of_zero_le h0
    obtain ⟨s, rfl⟩ := Int.eq_ofNat_of_zero_le (show 0 ≤ size by omega)
    exact put_yes n s w (by omega) (by omega) (by omega)
  · rw [if_neg h]
    exact put_no n size w (by omega)
theorem refPut_any (n size : Int) (w : World) (h0 : 0 ≤ n) (hn : n < 18446744073709551616) : Calls Tryd.prog 125 #[.int .u64 n, .int .i64 size] w (RetBs w (putS n size)) := by
  unfold putS
  by_cases h : 1 ≤ size ∧ size ≤ 8
  · rw [if_pos h]
    obtain ⟨n, rfl⟩ := Int.eq_ofNat_of_zero_le h0
    obtain ⟨s, rfl⟩ := Int.eq_ofNat_of_zero_le (show 0 ≤ size by omega)
    exact refPut_yes n s w (by omega) (by omega) (by omega)
  · rw [if_neg h]
    exact refPut_no n size w (by omega)
theorem get_any (A : Option Addr) (n c : Nat) (l : List UInt8) (w : World) (h : Bs w A n c l) :
    Calls Tryd.prog 118 #[.slice A n c] w fun e w' => e = .returned (.tuple #[.int .u64 (getS l), .int .i64 (getF l)]) ∧ w = w' := by
  unfold getS getF
  rw [h.len]
  by_cases h1 : 1 ≤ n ∧ n ≤ 8
  · rw [if_pos h1, if_pos h1]
    exact get_yes A n c l w h h1.1 h1.2
  · rw [if_neg h1, if_neg h1]
    exact get_no A n c w (by have := h.max; have := h.cap; omega) (by omega)
theorem refGet_any (A : Option Addr) (n c : Nat) (l : List UInt8) (w : World) (h : Bs w A n c l) :
    Calls Tryd.prog 159 #[.slice A n c] w fun e w' => e = .returned (.tuple #[.int .u64 (getS l), .int .i64 (getF l)]) ∧ w = w' := by
  unfold getS getF
  rw [h.len]
  by_cases h1 : 1 ≤ n ∧ n ≤ 8
  · rw [if_pos h1, if_pos h1]
    exact refGet_yes A n c l w h h1.1 h1.2
  · rw [if_neg h1, if_neg h1]
    exact refGet_no A n c w (by have := h.max; have := h.cap; omega) (by omega)

end Go.Proofs.YtbmijjodpdbbmaaDoor
