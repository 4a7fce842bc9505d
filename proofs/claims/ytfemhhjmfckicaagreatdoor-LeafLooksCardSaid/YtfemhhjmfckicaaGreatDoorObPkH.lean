/- Own texts of this claim, one behind the other. No condition. -/
import Derived.Test.YtfemhhjmfckicaaGreatDoorObPkC
import Derived.Test.YtfemhhjmfckicaaGreatDoorObPkG
import Derived.Outline

/- Names: the reference's runes: Right, Bytes. No condition. -/
namespace Go.Proofs.YtfemhhjmfckicaaGreatDoor
open Go.RowKit
set_option linter.unusedVariables false
theorem refRight02_any (r : Nat) (w : World) : Calls Tryz.prog 180 #[.int .i32 (r : Int)] w fun e w' => e = .returned (.bool (rightR r)) ∧ w = w' := by
  have t0 : decide ((0 : Int) ≤ (r : Int)) = true := decide_eq_true (by omega)
  by_cases h1 : r < 55296
  · have hv : rightR r = true := by unfold rightR; rw [Bool.and_eq_true, Bool.or_eq_true, decide_eq_true_eq, decide_eq_true_eq]; exact ⟨by omega, .inl h1⟩
    have t1 : decide ((r : Int) ≤ 1114111) = true := decide_eq_true (by omega)
    have t2 : decide ((r : Int) < 55296) = true := decide_eq_true (by omega)
    rw [hv]; clear hv
    go_enter Tryz.func180, Tryz.ntmps180
    go_wp2_with fail
    go_ret
    exact ⟨rfl, rfl⟩
  have t2 : decide ((r : Int) < 55296) = false := decide_eq_false (by omega)
  by_cases h2 : r ≤ 57343
  · have hv : rightR r = false := by unfold rightR; rw [decide_eq_false (show ¬ r < 55296 by omega), decide_eq_false (show ¬ 57343 < r by omega)]; simp
    have t1 : decide ((r : Int) ≤ 1114111) = true := decide_eq_true (by omega)
    have t3 : decide ((57343 : Int) < (r : Int)) = false := decide_eq_false (by omega)
    rw [hv]; clear hv
    go_enter Tryz.func180, Tryz.ntmps180
    go_wp2_with fail
    go_ret
    exact ⟨rfl, rfl⟩
  have t3 : decide ((57343 : Int) < (r : Int)) = true := decide_eq_true (by omega)
  by_cases h3 : r ≤ 1114111
  · have hv : rightR r = true := by unfold rightR; rw [Bool.and_eq_true, Bool.or_eq_true, decide_eq_true_eq, decide_eq_true_eq, decide_eq_true_eq]; exact ⟨h3, .inr (by omega)⟩
    have t1 : decide ((r : Int) ≤ 1114111) = true := decide_eq_true (by omega)
    rw [hv]; clear hv
    go_enter Tryz.func180, Tryz.ntmps180
    go_wp2_with fail
    go_ret
    exact ⟨rfl, rfl⟩
  · have hv : rightR r = false := by unfold rightR; rw [decide_eq_false h3]; rfl
    have t1 : decide ((r : Int) ≤ 1114111) = false := decide_eq_false (by omega)
    rw [hv]; clear hv
    go_enter Tryz.func180, Tryz.ntmps180
    go_wp2_with fail
    go_ret
    exact ⟨rfl, rfl⟩
/-- A row of bytes that was just laid. -/
theorem row_bytes (w : World) (l : List UInt8) (cs : Array Value) (hc : cs.toList = l.map u8c) (hl : l.length ≤ 4) : RetBs w l (.returned (.slice (some ⟨w.heap.size, 0, none⟩) l.length l.length)) (w.alloc (.cells cs 5)) := by
  refine ⟨_, rfl, Blk.own (cs := l.map u8c) ?_ (Nat.le_refl _) (Gr.alloc _ _) (by simp) (by simp only [maxLen]; omega)⟩
  have := Blk.new w 5 cs
  rw [hc] at this
  exact this
theorem u8_at (n : Nat) (z : Int) (h : n < 256) (hz : z = n) : Value.int .u8 z = u8c (UInt8.ofNat n) := by
  rw [u8c_ofNat, hz]; exact congrArg _ (by omega)
theorem wrap_i32n {x : Int} (h : -2147483648 ≤ x) (h' : x < 2147483648) : IntKind.i32.wrap x = x := by
  rw [IntKind.wrap_i32]; omega
set_option maxHeartbeats 1000000 in
set_option maxRecDepth 100000 in
theorem refBytes02_any (r : Nat) (hr : r ≤ 1114111) (w : World) : Calls Tryz.prog 181 #[.int .i32 (r : Int)] w (RetBs w (bytesR r)) := by
  by_cases h1 : r < 128
  · have hb : bytesR r = [UInt8.ofNat r] := by unfold bytesR; rw [if_pos h1]
    rw [hb]
    have HF := Lib.hid (row_bytes w [UInt8.ofNat r] #[.int .u8 (r : Int)] (by show [_] = [_]; rw [u8_at r r (by omega) rfl]) (by simp))
    clear hb
    go_enter Tryz.func181, Tryz.ntmps181
    go_wp2_with fail
    go_ret
    exact HF.out
  by_cases h2 : r < 2048
  · have hb : bytesR r = [UInt8.ofNat (192 + r / 64), UInt8.ofNat (128 + r % 64)] := by unfold bytesR; rw [if_neg h1, if_pos h2]
    rw [hb]
    have HF := Lib.hid (row_bytes w [UInt8.ofNat (192 + r / 64), UInt8.ofNat (128 + r % 64)] #[.int .u8 (192 + (r : Int) / 64), .int .u8 (128 + (r : Int) % 64)] (by show [_, _] = [_, _]; rw [u8_at (192 + r / 64) (192 + (r : Int) / 64) (by omega) (by omega), u8_at (128 + r % 64) (128 + (r : Int) % 64) (by omega) (by omega)]) (by simp))
    clear hb
    go_enter Tryz.func181, Tryz.ntmps181
    go_wp2_with fail
    go_ret
    exact HF.out
  have t1 : decide ((r : Int) < 128) = false := decide_eq_false (by omega)
  have t2 : decide ((r : Int) < 2048) = false := decide_eq_false (by omega)
  by_cases h3 : r < 65536
  · have t3 : decide ((r : Int) < 65536) = true := decide_eq_true (by omega)
    have hb : bytesR r = [UInt8.ofNat (224 + r / 4096), UInt8.ofNat (128 + r / 64 % 64), UInt8.ofNat (128 + r % 64)] := by unfold bytesR; rw [if_neg h1, if_neg h2, if_pos h3]
    rw [hb]
    have HF := Lib.hid (row_bytes w [UInt8.ofNat (224 + r / 4096), UInt8.ofNat (128 + r / 64 % 64), UInt8.ofNat (128 + r % 64)] #[.int .u8 (224 + (r : Int) / 4096), .int .u8 (128 + (r : Int) / 64 % 64), .int .u8 (128 + (r : Int) % 64)] (by show [_, _, _] = [_, _, _]; rw [u8_at (224 + r / 4096) (224 + (r : Int) / 4096) (by omega) (by omega), u8_at (128 + r / 64 % 64) (128 + (r : Int) / 64 % 64) (by omega) (by omega), u8_at (128 + r % 64) (128 + (r : Int) % 64) (by omega) (by omega)]) (by simp))
    clear hb
    go_enter Tryz.func181, Tryz.ntmps181
    go_wp2_with fail
    go_ret
    exact HF.out
  · have t3 : decide ((r : Int) < 65536) = false := decide_eq_false (by omega)
    have hb : bytesR r = [UInt8.ofNat (240 + r / 262144), UInt8.ofNat (128 + r / 4096 % 64), UInt8.ofNat (128 + r / 64 % 64), UInt8.ofNat (128 + r % 64)] := by unfold bytesR; rw [if_neg h1, if_neg h2, if_neg h3]
    rw [hb]
    have HF := Lib.hid (row_bytes w [UInt8.ofNat (240 + r / 262144), UInt8.ofNat (128 + r / 4096 % 64), UInt8.ofNat (128 + r / 64 % 64), UInt8.ofNat (128 + r % 64)] #[.int .u8 (240 + (r : Int) / 262144), .int .u8 (128 + (r : Int) / 4096 % 64), .int .u8 (128 + (r : Int) / 64 % 64), .int .u8 (128 + (r : Int) % 64)] (by show [_, _, _, _] = [_, _, _, _]; rw [u8_at (240 + r / 262144) (240 + (r : Int) / 262144) (by omega) (by omega), u8_at (128 + r / 4096 % 64) (128 + (r : Int) / 4096 % 64) (by omega) (by omega), u8_at (128 + r / 64 % 64) (128 + (r : Int) / 64 % 64) (by omega) (by omega), u8_at (128 + r % 64) (128 + (r : Int) % 64) (by omega) (by omega)]) (by simp))
    clear hb
    go_enter Tryz.func181, Tryz.ntmps181
    go_wp2_with fail
    go_ret
    exact HF.out
end Go.Proofs.YtfemhhjmfckicaaGreatDoor
