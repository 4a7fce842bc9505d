import Derived.Test.YtemfhfhhhjeflaaDoorObNumL
import Derived.Test.YtemfhfhhhjeflaaDoorObBits
import Derived.Test.YtemfhfhhhjeflaaDoorProg
import Derived.Outline
import Derived.Deep.QuietTactic
import Derived.BigQuiet
namespace Go.Proofs.YtemfhfhhhjeflaaDoor
open Go.RowKit
set_option linter.unusedVariables false

theorem tBytes : ElemT Tryd.prog 29 5 (.int .u8 0) 1 1 := ⟨Tryd.underlying29, by kernel_rfl, rfl, by decide, by decide⟩

def RetBs (w : World) (l : List UInt8) (e : Ending) (w' : World) : Prop := ∃ v, e = .returned v ∧ Own w w' 5 1 v l.length (l.map u8c)

set_option maxHeartbeats 400000 in
theorem get_yes (A : Option Addr) (n c : Nat) (l : List UInt8) (w : World) (h : Bs w A n c l) (h1 : 1 ≤ n) (h8 : n ≤ 8) :
    Calls Tryd.prog 13 #[.slice A n c] w fun e w' => e = .returned (.tuple #[.int .u64 (getL l), .int .i64 0]) ∧ w = w' := by
  have hc := h.cap
  have hm := h.max
  have HL := Lib.hid h.len
  obtain ⟨b, o, rfl, hcell⟩ := h.addr (by omega)
  have HC := Lib.hid hcell; clear hcell h
  have t1 : ((n : Int) == 0) = false := by simp; omega
  have t2 : decide (8 < (n : Int)) = false := by simp; omega
  go_enter Tryd.func13, Tryd.ntmps13
  go_wp2
  clear t1 t2
  go_loop [2, 16] (fun a i => ∃ k : Nat, k ≤ n ∧ i = .int .i64 k ∧ a = .int .u64 (getL (l.take k))) (fun _ i => n - (intOf i).toNat)
  case atStart => exact ⟨0, Nat.zero_le _, rfl, rfl⟩
  case round =>
    obtain ⟨k, hk, rfl, rfl⟩ := hrel
    by_cases hlt : k < n
    · have hcell := HC.out k hlt
      have hb := getL_take_lt l k (by omega)
      have hb2 := bAt_nn l k
      have hb3 := bAt_lt l k
      have HS := Lib.hid (getL_take l k (by rw [HL.out]; exact hlt))
      go_wp2
      go_round
      case rel => exact ⟨k + 1, by omega, by go_num, by rw [HS.out, u64_or_byte _ _ hb2 hb3 hb]⟩
      case measure => simp [intOf]; omega
    · obtain rfl : k = n := by omega
      go_wp2
      go_ret2
      refine ⟨?_, rfl⟩
      show Ending.returned (.tuple #[.int .u64 (getL (l.take k)), .int .i64 0]) = _
      rw [List.take_of_length_le (by rw [HL.out]; omega)]

theorem get_no (A : Option Addr) (n c : Nat) (w : World) (hm : n ≤ 9223372036854775807) (h : n < 1 ∨ 8 < n) :
    Calls Tryd.prog 13 #[.slice A n c] w fun e w' => e = .returned (.tuple #[.int .u64 0, .int .i64 4]) ∧ w = w' := by
  rcases h with h | h
  · have t1 : ((n : Int) == 0) = true := by simp; omega
    go_enter Tryd.func13, Tryd.ntmps13
    go_wp2
    go_ret2
    exact ⟨rfl, rfl⟩
  · have t1 : ((n : Int) == 0) = false := by simp; omega
    have t2 : decide (8 < (n : Int)) = true := by simp; omega
    go_enter Tryd.func13, Tryd.ntmps13
    go_wp2
    go_ret2
    exact ⟨rfl, rfl⟩

set_option maxHeartbeats 400000 in
theorem put_yes (n : Nat) (size : Nat) (w : World) (hn : n < 18446744073709551616) (h1 : 1 ≤ size) (h8 : size ≤ 8) :
    Calls Tryd.prog 14 #[.int .u64 n, .int .i64 size] w (RetBs w (be n size)) := by
  have t1 : decide ((size : Int) < 1) = false := by simp; omega
  have t2 : decide (8 < (size : Int)) = false := by simp; omega
  go_enter Tryd.func14, Tryd.ntmps14
  go_wp2
  go_step3
  go_wp2
  go_step3
  go_wp2
  clear t1 t2
  go_loopw [4, 5] (fun v i wr => ∃ k : Nat, k ≤ size ∧ i = .int .i64 (size - 1 - k : Int) ∧ Own w wr 5 1 v k ((putTo n size k).map u8c)) (fun _ i _ => (intOf i + 1).toNat)
  case atStart => exact ⟨0, Nat.zero_le _, by go_num, Own.nil _ _ _⟩
  case round =>
    obtain ⟨k, hk, rfl, hown⟩ := hrel
    by_cases hlt : k < size
    · go_wp2_with (at_builtin; refine wpList_push rfl _ _ 29 rfl tBytes rfl hown #[_] rfl rfl (by intro u hu; simp at hu; subst hu; rfl) (by omega) ?_; intro v1 w1 hown1)
      go_roundw
      case rel =>
        exact ⟨k + 1, by omega, by go_num, by rw [putTo_cell _ _ _ hlt]; exact hown1⟩
      case measure => simp [intOf]; omega
    · obtain rfl : k = size := by omega
      go_wp2
      rw [Exit.noGoto_ret]
      go_ret
      rw [putTo_all] at hown
      exact ⟨_, rfl, by rw [be_length]; exact hown⟩

theorem put_no (n size : Int) (w : World) (h : size < 1 ∨ 8 < size) :
    Calls Tryd.prog 14 #[.int .u64 n, .int .i64 size] w (RetBs w []) := by
  have fin : RetBs w [] (.returned (.slice none 0 0)) w := ⟨_, rfl, Own.nil _ _ _⟩
  rcases h with h | h
  · have t1 : decide (size < 1) = true := by simpa using h
    go_enter Tryd.func14, Tryd.ntmps14
    go_wp2
    go_step3
    go_wp2
    rw [Exit.noGoto_ret]
    go_ret
    exact fin
  · have t1 : decide (size < 1) = false := by simp; omega
    have t2 : decide (8 < size) = true := by simpa using h
    go_enter Tryd.func14, Tryd.ntmps14
    go_wp2
    go_step3
    go_wp2
    rw [Exit.noGoto_ret]
    go_ret
    exact fin

/-! ### are bytes the same? -/
/-! ### the chapter's example -/
theorem parse07 (w : World) : Calls Tryd.prog 9 #[.string ⟨#[48, 55]⟩, .int .i64 9] w fun e w' => e = .returned (.tuple #[.int .i64 0, .int .i64 3]) ∧ w = w' := by
  go_enter Tryd.func9, Tryd.ntmps9
  go_wp2
  go_ret2
  exact ⟨rfl, rfl⟩

theorem alive_any (w : World) : Calls Tryd.prog 8 #[] w fun e w' => e = .returned (.bool true) ∧ Below w.heap.size w w' := by
  go_enter Tryd.func8, Tryd.ntmps8
  go_wp2_with fail
  refine (put_yes 258 2 _ (by decide) (by decide) (by decide)).mono ?_
  rintro e w1 ⟨v, rfl, hown⟩
  obtain ⟨A, c, rfl, hs⟩ := hown.slice
  have hbel := hown.below
  obtain ⟨b, o, rfl, hc⟩ := Sl.addr hs (by decide)
  have c0 : w1.cell? ⟨b, o, none⟩ = some (.int .u8 1) := hc 0 _ rfl
  have c1 : w1.cell? ⟨b, o + 1, none⟩ = some (.int .u8 2) := hc 1 _ rfl
  have hcap := Sl.cap hs
  have hmax := Sl.max hs
  clear hc hs hown
  go_wp2_with (go_at_call 9; refine (parse07 _).mono ?_; rintro e w' ⟨rfl, rfl⟩)
  go_ret
  exact ⟨rfl, hbel⟩

/-! ### every input -/
def putS (n size : Int) : List UInt8 := if 1 ≤ size ∧ size ≤ 8 then be n.toNat size.toNat else []
def getS (l : List UInt8) : Nat := if 1 ≤ l.length ∧ l.length ≤ 8 then getL l else 0
def getF (l : List UInt8) : Int := if 1 ≤ l.length ∧ l.length ≤ 8 then 0 else 4

theorem put_any (n size : Int) (w : World) (h0 : 0 ≤ n) (hn : n < 18446744073709551616) : Calls Tryd.prog 14 #[.int .u64 n, .int .i64 size] w (RetBs w (putS n size)) := by
  unfold putS
  by_cases h : 1 ≤ size ∧ size ≤ 8
  · rw [if_pos h]
    obtain ⟨n, rfl⟩ := Int.eq_ofNat_of_zero_le h0
    obtain ⟨s, rfl⟩ := Int.eq_ofNat_of_zero_le (show 0 ≤ size by omega)
    exact put_yes n s w (by omega) (by omega) (by omega)
  · rw [if_neg h]
    exact put_no n size w (by omega)
theorem get_any (A : Option Addr) (n c : Nat) (l : List UInt8) (w : World) (h : Bs w A n c l) :
    Calls Tryd.prog 13 #[.slice A n c] w fun e w' => e = .returned (.tuple #[.int .u64 (getS l), .int .i64 (getF l)]) ∧ w = w' := by
  unfold getS getF
  rw [h.len]
  by_cases h1 : 1 ≤ n ∧ n ≤ 8
  · rw [if_pos h1, if_pos h1]
    exact get_yes A n c l w h h1.1 h1.2
  · rw [if_neg h1, if_neg h1]
    exact get_no A n c w (by have := h.max; have := h.cap; omega) (by omega)
end Go.Proofs.YtemfhfhhhjeflaaDoor
