/- Own texts of this claim, one behind the other. No condition. -/
import Derived.Test.YtcfbbgbjlgonpaaGreatDoorObPkAN
import Derived.Test.YtcfbbgbjlgonpaaGreatDoorObPkAP

/- The reference of layer 10: the field of 256 numbers. No condition. -/
namespace Go.Proofs.YtcfbbgbjlgonpaaGreatDoor
open Go.RowKit
set_option linter.unusedVariables false
set_option linter.unusedSimpArgs false
theorem rtw_hi (a : UInt8) : decide ((128 : Int) ≤ ub a) = decide (128 ≤ a.toNat) := byte_all (P := fun a => decide ((128 : Int) ≤ ub a) = decide (128 ≤ a.toNat)) (by decide +kernel) a
theorem refTwice_any (a : UInt8) (w : World) : Calls Tryz.prog 221 #[.int .u8 (ub a)] w fun e w' => e = .returned (.int .u8 (ub (twB a))) ∧ w = w' := by
  have h1 := rtw_hi a; have H2 := Lib.hid (tw_one a); have H3 := Lib.hid (tw_two a)
  unfold twB
  by_cases h : 128 ≤ a.toNat
  · rw [if_pos h]
    rw [decide_eq_true h] at h1
    go_enter Tryz.func221, Tryz.ntmps221
    go_wp2_with fail
    go_ret
    exact ⟨ret_u8 H2.out, rfl⟩
  · rw [if_neg h]
    rw [decide_eq_false h] at h1
    go_enter Tryz.func221, Tryz.ntmps221
    go_wp2_with fail
    go_ret
    exact ⟨ret_u8 H3.out, rfl⟩
/-! ### Mul -/
def mulR : Nat → UInt8 → UInt8 → UInt8 → UInt8
  | 0, _, _, s => s
  | f + 1, a, b, s => mulR f (a >>> 1) (twB b) (if a.toNat % 2 = 1 then s ^^^ b else s)
theorem zero_half (a : UInt8) (h : a.toNat = 0) : (a >>> 1).toNat = 0 := by rw [ml_nat, h]
theorem mulR_zero : ∀ (f : Nat) (a b s : UInt8), a.toNat = 0 → mulR f a b s = s
  | 0, _, _, _, _ => rfl
  | f + 1, a, b, s, h => by
    show mulR f (a >>> 1) (twB b) (if a.toNat % 2 = 1 then s ^^^ b else s) = s
    rw [h]
    exact mulR_zero f _ _ _ (zero_half a h)
theorem mulR_mulG : ∀ (f : Nat) (a b s : UInt8), mulR f a b s = mulG f a b s
  | 0, _, _, _ => rfl
  | f + 1, a, b, s => by
    by_cases h : a.toNat = 0
    · rw [mulR_zero _ _ _ _ h, mulG_zero _ _ _ _ h]
    · show mulR f (a >>> 1) (twB b) (if a.toNat % 2 = 1 then s ^^^ b else s) = (if a.toNat = 0 then s else mulG f (a >>> 1) (twB b) (if a.toNat % 2 = 0 then s else s ^^^ b))
      rw [if_neg h, mulR_mulG f]
      congr 1
      by_cases ho : a.toNat % 2 = 0
      · rw [if_neg (by omega), if_pos ho]
      · rw [if_pos (by omega), if_neg ho]
theorem rml_odd (a : UInt8) : (ub a % 2 == 1) = decide (a.toNat % 2 = 1) := byte_all (P := fun a => (ub a % 2 == 1) = decide (a.toNat % 2 = 1)) (by decide +kernel) a
set_option maxRecDepth 100000 in
theorem refMul_any (a b : UInt8) (w : World) : Calls Tryz.prog 220 #[.int .u8 (ub a), .int .u8 (ub b)] w fun e w' => e = .returned (.int .u8 (ub (mulB a b))) ∧ w = w' := by
  obtain ⟨T, hT⟩ : ∃ T, T = mulB a b := ⟨_, rfl⟩
  rw [← hT]
  have HT : Hid (mulR 8 a b 0 = T) := by show mulR 8 a b 0 = T; rw [hT, mulR_mulG]; rfl
  clear hT
  go_enter Tryz.func220, Tryz.ntmps220
  go_wp2_with fail
  go_loopw [0, 1, 5, 6] (fun v0 v1 v3 v4 wr => w = wr ∧ ∃ (k : Nat) (x y s : UInt8), k ≤ 8 ∧ v0 = .int .u8 (ub x) ∧ v1 = .int .u8 (ub y) ∧ v3 = .int .u8 (ub s) ∧ v4 = .int .i64 (k : Int) ∧ mulR (8 - k) x y s = T) (fun _ _ _ v4 _ => 8 - (Go.RowKit.intOf v4).toNat)
  case atStart => exact ⟨rfl, 0, a, b, 0, by decide, rfl, rfl, rfl, rfl, HT.out⟩
  case round =>
    obtain ⟨rfl, k, x, y, s, hk, rfl, rfl, rfl, rfl, hs⟩ := hrel
    have HS := Lib.hid hs
    have h2 := rml_odd x; have hnn := ub_nn x; have hlt := ub_lt x
    have H3 := Lib.hid (ml_half x); have H4 := Lib.hid (ub_xor s y)
    have p0 : (0 : Int) ≤ k := by omega
    clear hs
    by_cases h8 : k < 8
    · have t0 : decide ((k : Int) < 8) = true := decide_eq_true (by omega)
      have hstep : mulR (8 - (k + 1)) (x >>> 1) (twB y) (if x.toNat % 2 = 1 then s ^^^ y else s) = T := by
        rw [← HS.out, show 8 - k = (8 - (k + 1)) + 1 by omega]
        rfl
      have HSt := Lib.hid hstep
      clear hstep HS HT
      by_cases ho : x.toNat % 2 = 1
      · rw [decide_eq_true ho] at h2
        rw [if_pos ho] at HSt
        go_wp2_with (go_at_call 221; refine (refTwice_any y _).mono ?_; rintro e w' ⟨rfl, rfl⟩)
        have e3 := H3.out
        rw [e3, H4.out]
        go_roundw
        case rel => exact ⟨by first | trivial | rfl, k + 1, _, _, _, by omega, rfl, rfl, rfl, by go_num, HSt.out⟩
        case measure => simp [Go.RowKit.intOf]; omega
      · rw [decide_eq_false ho] at h2
        rw [if_neg ho] at HSt
        go_wp2_with (go_at_call 221; refine (refTwice_any y _).mono ?_; rintro e w' ⟨rfl, rfl⟩)
        have e3 := H3.out
        rw [e3]
        go_roundw
        case rel => exact ⟨by first | trivial | rfl, k + 1, _, _, _, by omega, rfl, rfl, rfl, by go_num, HSt.out⟩
        case measure => simp [Go.RowKit.intOf]; omega
    · obtain rfl : k = 8 := by omega
      have hsT : s = T := HS.out
      subst hsT
      clear HT HS h2 H3 H4
      go_wp2_with fail
      go_ret
      exact ⟨rfl, rfl⟩
/-! ### Power of 2 -/
def powR (a : UInt8) : Nat → UInt8
  | 0 => 1
  | n + 1 => mulB (powR a n) a
theorem powR_two (n : Nat) (h : n ≤ 7) : powR 2 n = powB 2 n := by
  have : ((List.range 8).all fun n => decide (powR 2 n = powB 2 n)) = true := by decide +kernel
  exact of_decide_eq_true (List.all_eq_true.1 this n (List.mem_range.2 (by omega)))
set_option maxRecDepth 100000 in
theorem refPower_any (a : UInt8) (n : Nat) (hn : n ≤ 255) (w : World) : Calls Tryz.prog 209 #[.int .u8 (ub a), .int .i64 (n : Int)] w fun e w' => e = .returned (.int .u8 (ub (powR a n))) ∧ w = w' := by
  have t1 : decide ((255 : Int) < (n : Int)) = false := decide_eq_false (by omega)
  go_enter Tryz.func209, Tryz.ntmps209
  go_wp2_with fail
  go_loopw [5, 6] (fun v3 v4 wr => w = wr ∧ ∃ k : Nat, k ≤ n ∧ v3 = .int .u8 (ub (powR a k)) ∧ v4 = .int .i64 (k : Int)) (fun _ v4 _ => n - (Go.RowKit.intOf v4).toNat)
  case atStart => exact ⟨rfl, 0, Nat.zero_le _, rfl, rfl⟩
  case round =>
    obtain ⟨rfl, k, hk, rfl, rfl⟩ := hrel
    have p0 : (0 : Int) ≤ k := by omega
    by_cases hlt : k < n
    · have t0 : decide ((k : Int) < (n : Int)) = true := decide_eq_true (by omega)
      go_wp2_with (go_at_call 220; refine (refMul_any _ _ _).mono ?_; rintro e w' ⟨rfl, rfl⟩)
      go_roundw
      case rel => exact ⟨by first | trivial | rfl, k + 1, by omega, rfl, by go_num⟩
      case measure => simp [Go.RowKit.intOf]; omega
    · obtain rfl : k = n := by omega
      have t0 : decide ((k : Int) < (k : Int)) = false := decide_eq_false (by omega)
      go_wp2_with fail
      go_ret
      exact ⟨rfl, rfl⟩
/-! ### Inverse -/
def invF (a : UInt8) : Nat → Nat → UInt8
  | 0, _ => 0
  | f + 1, b => if mulB a (UInt8.ofNat b) = 1 then UInt8.ofNat b else invF a f (b + 1)
def invG (a : UInt8) : UInt8 := invF a 256 0
theorem ub_of (k : Nat) (h : k < 256) : (k : Int) = ub (UInt8.ofNat k) := by
  unfold ub
  rw [UInt8.toNat_ofNat']
  omega
theorem one_eq (x : UInt8) : (ub x == 1) = decide (x = 1) := byte_all (P := fun x => (ub x == 1) = decide (x = 1)) (by decide +kernel) x
set_option maxRecDepth 100000 in
theorem refInverse_any (a : UInt8) (w : World) : Calls Tryz.prog 218 #[.int .u8 (ub a)] w fun e w' => e = .returned (.int .u8 (ub (invG a))) ∧ w = w' := by
  obtain ⟨T, hT⟩ : ∃ T, T = invG a := ⟨_, rfl⟩
  rw [← hT]
  have HT : Hid (invF a 256 0 = T) := hT.symm
  clear hT
  go_enter Tryz.func218, Tryz.ntmps218
  go_wp2_with fail
  go_loopw [3] (fun v2 wr => w = wr ∧ ∃ k : Nat, k ≤ 256 ∧ v2 = .int .i64 (k : Int) ∧ invF a (256 - k) k = T) (fun v2 _ => 256 - (Go.RowKit.intOf v2).toNat)
  case atStart => exact ⟨rfl, 0, by decide, rfl, HT.out⟩
  case round =>
    obtain ⟨rfl, k, hk, rfl, hs⟩ := hrel
    have HS := Lib.hid hs
    clear hs HT
    have p0 : (0 : Int) ≤ k := by omega
    by_cases hlt : k < 256
    · have t0 : decide ((k : Int) < 256) = true := decide_eq_true (by omega)
      have hm : (k : Int) % 256 = (k : Int) := by omega
      have hw8 : IntKind.u8.wrap (k : Int) = ub (UInt8.ofNat k) := by rw [wrap_u8 (by omega) (by omega)]; exact ub_of k hlt
      have hm8 : (k : Int) % 256 = ub (UInt8.ofNat k) := by rw [hm]; exact ub_of k hlt
      have h1 := one_eq (mulB a (UInt8.ofNat k))
      have HU := Lib.hid (ub_of k hlt)
      clear hm
      have hst : (if mulB a (UInt8.ofNat k) = 1 then UInt8.ofNat k else invF a (256 - (k + 1)) (k + 1)) = T := by
        rw [← HS.out, show 256 - k = (256 - (k + 1)) + 1 by omega]
        rfl
      have HST := Lib.hid hst
      clear hst HS
      by_cases ho : mulB a (UInt8.ofNat k) = 1
      · rw [decide_eq_true ho] at h1
        rw [if_pos ho] at HST
        have HO := Lib.hid ho; clear ho
        go_wp2_with (go_at_call 220; refine (refMul_any _ _ _).mono ?_; rintro e w' ⟨rfl, rfl⟩)
        go_ret
        exact ⟨by rw [HST.out]; rfl, rfl⟩
      · rw [decide_eq_false ho] at h1
        rw [if_neg ho] at HST
        have HO := Lib.hid ho; clear ho
        go_wp2_with (go_at_call 220; refine (refMul_any _ _ _).mono ?_; rintro e w' ⟨rfl, rfl⟩)
        go_roundw
        case rel => exact ⟨by first | trivial | rfl, k + 1, by omega, by go_num, HST.out⟩
        case measure => simp [Go.RowKit.intOf]; omega
    · obtain rfl : k = 256 := by omega
      have hsT : (0 : UInt8) = T := HS.out
      subst hsT
      clear HS
      go_wp2_with fail
      go_ret
      exact ⟨rfl, rfl⟩
end Go.Proofs.YtcfbbgbjlgonpaaGreatDoor

/- The reference of layer 10: Box. No condition. -/
namespace Go.Proofs.YtcfbbgbjlgonpaaGreatDoor
open Go.RowKit
set_option linter.unusedVariables false
set_option linter.unusedSimpArgs false
def leftB (a : UInt8) (n : Nat) : UInt8 := (a <<< (UInt8.ofNat n)) ||| (a >>> (UInt8.ofNat (8 - n)))
theorem left_is1 (a : UInt8) : bits BinOp.or IntKind.u8 (ub a * 2 % 256) (ub a / 128) = ub (leftB a 1) := byte_all (P := fun a => bits BinOp.or IntKind.u8 (ub a * 2 % 256) (ub a / 128) = ub (leftB a 1)) (by decide +kernel) a
theorem refLeft_1 (a : UInt8) (w : World) : Calls Tryz.prog 219 #[.int .u8 (ub a), .int .i64 1] w fun e w' => e = .returned (.int .u8 (ub (leftB a 1))) ∧ ∃ k, w' = w.drewN k := by
  have HL := Lib.hid (left_is1 a)
  go_enter Tryz.func219, Tryz.ntmps219
  go_wp2_with fail
  go_quiet (fail)
  go_wp2_with fail
  go_ret
  exact ⟨ret_u8 HL.out, _, rfl⟩
theorem left_is2 (a : UInt8) : bits BinOp.or IntKind.u8 (ub a * 4 % 256) (ub a / 64) = ub (leftB a 2) := byte_all (P := fun a => bits BinOp.or IntKind.u8 (ub a * 4 % 256) (ub a / 64) = ub (leftB a 2)) (by decide +kernel) a
theorem refLeft_2 (a : UInt8) (w : World) : Calls Tryz.prog 219 #[.int .u8 (ub a), .int .i64 2] w fun e w' => e = .returned (.int .u8 (ub (leftB a 2))) ∧ ∃ k, w' = w.drewN k := by
  have HL := Lib.hid (left_is2 a)
  go_enter Tryz.func219, Tryz.ntmps219
  go_wp2_with fail
  go_quiet (fail)
  go_wp2_with fail
  go_ret
  exact ⟨ret_u8 HL.out, _, rfl⟩
theorem left_is3 (a : UInt8) : bits BinOp.or IntKind.u8 (ub a * 8 % 256) (ub a / 32) = ub (leftB a 3) := byte_all (P := fun a => bits BinOp.or IntKind.u8 (ub a * 8 % 256) (ub a / 32) = ub (leftB a 3)) (by decide +kernel) a
theorem refLeft_3 (a : UInt8) (w : World) : Calls Tryz.prog 219 #[.int .u8 (ub a), .int .i64 3] w fun e w' => e = .returned (.int .u8 (ub (leftB a 3))) ∧ ∃ k, w' = w.drewN k := by
  have HL := Lib.hid (left_is3 a)
  go_enter Tryz.func219, Tryz.ntmps219
  go_wp2_with fail
  go_quiet (fail)
  go_wp2_with fail
  go_ret
  exact ⟨ret_u8 HL.out, _, rfl⟩
theorem left_is4 (a : UInt8) : bits BinOp.or IntKind.u8 (ub a * 16 % 256) (ub a / 16) = ub (leftB a 4) := byte_all (P := fun a => bits BinOp.or IntKind.u8 (ub a * 16 % 256) (ub a / 16) = ub (leftB a 4)) (by decide +kernel) a
theorem refLeft_4 (a : UInt8) (w : World) : Calls Tryz.prog 219 #[.int .u8 (ub a), .int .i64 4] w fun e w' => e = .returned (.int .u8 (ub (leftB a 4))) ∧ ∃ k, w' = w.drewN k := by
  have HL := Lib.hid (left_is4 a)
  go_enter Tryz.func219, Tryz.ntmps219
  go_wp2_with fail
  go_quiet (fail)
  go_wp2_with fail
  go_ret
  exact ⟨ret_u8 HL.out, _, rfl⟩
def boxR (a : UInt8) : UInt8 := invG a ^^^ leftB (invG a) 1 ^^^ leftB (invG a) 2 ^^^ leftB (invG a) 3 ^^^ leftB (invG a) 4 ^^^ 99
theorem boxR_boxB (a : UInt8) : boxR a = boxB a := byte_all (P := fun a => boxR a = boxB a) (by decide +kernel) a
theorem refBox_any (a : UInt8) (w : World) : Calls Tryz.prog 208 #[.int .u8 (ub a)] w fun e w' => e = .returned (.int .u8 (ub (boxB a))) ∧ ∃ k, w' = w.drewN k := by
  rw [← boxR_boxB]
  unfold boxR
  obtain ⟨b, hb⟩ : ∃ b, b = invG a := ⟨_, rfl⟩
  have HI := Lib.hid (refInverse_any a w)
  rw [← hb] at HI ⊢
  clear hb
  have x1 := ub_xor b (leftB b 1)
  have x2 := ub_xor (b ^^^ leftB b 1) (leftB b 2)
  have x3 := ub_xor (b ^^^ leftB b 1 ^^^ leftB b 2) (leftB b 3)
  have x4 := ub_xor (b ^^^ leftB b 1 ^^^ leftB b 2 ^^^ leftB b 3) (leftB b 4)
  have x5 := ub_xor (b ^^^ leftB b 1 ^^^ leftB b 2 ^^^ leftB b 3 ^^^ leftB b 4) 99
  rw [show ub 99 = 99 from rfl] at x5
  go_enter Tryz.func208, Tryz.ntmps208
  go_wp2_with fail
  refine HI.out.mono ?_
  rintro e w1 ⟨rfl, h1⟩
  rw [← h1]
  clear h1 w1
  go_wp2_with fail
  refine (refLeft_1 b w).mono ?_
  rintro e w1 ⟨rfl, k1, rfl⟩
  go_wp2_with fail
  refine (refLeft_2 b _).mono ?_
  rintro e w1 ⟨rfl, k2, rfl⟩
  go_wp2_with fail
  refine (refLeft_3 b _).mono ?_
  rintro e w1 ⟨rfl, k3, rfl⟩
  go_wp2_with fail
  refine (refLeft_4 b _).mono ?_
  rintro e w1 ⟨rfl, k4, rfl⟩
  go_wp2_with fail
  go_ret
  exact ⟨rfl, k1 + k2 + k3 + k4, by simp only [World.drewN_drewN, Nat.add_assoc]⟩
end Go.Proofs.YtcfbbgbjlgonpaaGreatDoor

/- The reference of layer 10: Column. No condition. -/
namespace Go.Proofs.YtcfbbgbjlgonpaaGreatDoor
open Go.RowKit
set_option linter.unusedVariables false
set_option linter.unusedSimpArgs false
theorem twB_xor (x y : UInt8) : twB (x ^^^ y) = twB x ^^^ twB y :=
  byte_all (P := fun y => twB (x ^^^ y) = twB x ^^^ twB y) (byte_all (P := fun x => ((List.range 256).all fun m => decide (twB (x ^^^ UInt8.ofNat m) = twB x ^^^ twB (UInt8.ofNat m))) = true) (by decide +kernel) x) y
theorem xor_back (a b : UInt8) : a ^^^ (a ^^^ b) = b := by rw [← UInt8.xor_assoc, UInt8.xor_self, UInt8.zero_xor]
theorem refCol_eq (l : List UInt8) (k : Nat) (hk : k < 4) : twB (gB l k) ^^^ gB l ((k + 1) % 4) ^^^ twB (gB l ((k + 1) % 4)) ^^^ gB l ((k + 2) % 4) ^^^ gB l ((k + 3) % 4) = gB (colL l) k := by
  rw [show gB (colL l) k = colB l k from gB_range _ _ _ hk]
  unfold colB colAll
  rw [twB_xor]
  rcases (by omega : k = 0 ∨ k = 1 ∨ k = 2 ∨ k = 3) with rfl | rfl | rfl | rfl
  · show twB (gB l 0) ^^^ gB l 1 ^^^ twB (gB l 1) ^^^ gB l 2 ^^^ gB l 3 = (gB l 0 ^^^ (gB l 0 ^^^ gB l 1 ^^^ gB l 2 ^^^ gB l 3)) ^^^ (twB (gB l 0) ^^^ twB (gB l 1))
    rw [show gB l 0 ^^^ gB l 1 ^^^ gB l 2 ^^^ gB l 3 = gB l 0 ^^^ (gB l 1 ^^^ gB l 2 ^^^ gB l 3) by ac_rfl, xor_back]
    ac_rfl
  · show twB (gB l 1) ^^^ gB l 2 ^^^ twB (gB l 2) ^^^ gB l 3 ^^^ gB l 0 = (gB l 1 ^^^ (gB l 0 ^^^ gB l 1 ^^^ gB l 2 ^^^ gB l 3)) ^^^ (twB (gB l 1) ^^^ twB (gB l 2))
    rw [show gB l 0 ^^^ gB l 1 ^^^ gB l 2 ^^^ gB l 3 = gB l 1 ^^^ (gB l 0 ^^^ gB l 2 ^^^ gB l 3) by ac_rfl, xor_back]
    ac_rfl
  · show twB (gB l 2) ^^^ gB l 3 ^^^ twB (gB l 3) ^^^ gB l 0 ^^^ gB l 1 = (gB l 2 ^^^ (gB l 0 ^^^ gB l 1 ^^^ gB l 2 ^^^ gB l 3)) ^^^ (twB (gB l 2) ^^^ twB (gB l 3))
    rw [show gB l 0 ^^^ gB l 1 ^^^ gB l 2 ^^^ gB l 3 = gB l 2 ^^^ (gB l 0 ^^^ gB l 1 ^^^ gB l 3) by ac_rfl, xor_back]
    ac_rfl
  · show twB (gB l 3) ^^^ gB l 0 ^^^ twB (gB l 0) ^^^ gB l 1 ^^^ gB l 2 = (gB l 3 ^^^ (gB l 0 ^^^ gB l 1 ^^^ gB l 2 ^^^ gB l 3)) ^^^ (twB (gB l 3) ^^^ twB (gB l 0))
    rw [show gB l 0 ^^^ gB l 1 ^^^ gB l 2 ^^^ gB l 3 = gB l 3 ^^^ (gB l 0 ^^^ gB l 1 ^^^ gB l 2) by ac_rfl, xor_back]
    ac_rfl
/-- The blocks that a function of arrays begins with, and one of its own. -/
def thr4 (w : World) (l : List UInt8) : World := (two4 w l).alloc (.cells #[.int .u8 0, .int .u8 0, .int .u8 0, .int .u8 0] 190)
theorem thr4_gr (w : World) (l : List UInt8) : Gr w (thr4 w l) := (two4_gr w l).trans (Gr.alloc _ _)
theorem two4_size (w : World) (l : List UInt8) : (two4 w l).heap.size = w.heap.size + 2 := by unfold two4; simp
theorem thr4_a (w : World) (l : List UInt8) : By (thr4 w l) w.heap.size 190 l := (Gr.alloc _ _).blk (two4_a w l)
theorem thr4_b (w : World) (l : List UInt8) : By (thr4 w l) (w.heap.size + 1) 190 (List.replicate 4 0) := (Gr.alloc _ _).blk (two4_b w l)
theorem thr4_c (w : World) (l : List UInt8) : By (thr4 w l) (w.heap.size + 2) 190 (List.replicate 4 0) := by rw [← two4_size w l]; exact heap_alloc_new (two4 w l) _
set_option maxRecDepth 100000 in
set_option maxHeartbeats 2000000 in
theorem refColumn_any (l : List UInt8) (hl : l.length = 4) (w : World) : Calls Tryz.prog 210 #[arr l] w fun e w' => e = .returned (arr (colL l)) ∧ Gr w w' := by
  unfold arr
  obtain ⟨W, hW⟩ : ∃ W, W = thr4 w l := ⟨_, rfl⟩
  have hG := thr4_gr w l; have hA := thr4_a w l; have hB := thr4_b w l; have hC := thr4_c w l
  rw [← hW] at hG hA hB hC
  unfold thr4 two4 at hW
  have HA := Lib.hid hA; have HB := Lib.hid hB; have HC := Lib.hid hC; have HG := Lib.hid hG; have HW := Lib.hid hW; have HL := Lib.hid hl
  clear hA hB hC hG hW hl
  go_enter Tryz.func210, Tryz.ntmps210
  go_upto_region 2 with fail
  rw [← HW.out]
  obtain ⟨h, hh⟩ : ∃ h, h = w.heap.size := ⟨_, rfl⟩
  rw [← hh] at HA HB HC ⊢
  have HH := Lib.hid hh; clear hh
  go_wp2_with fail
  go_loopw [4] (fun i wr => ∃ k : Nat, k ≤ 4 ∧ i = .int .i64 (k : Int) ∧ Gr w wr ∧ By wr h 190 l ∧ By wr (h + 1) 190 (List.replicate 4 0) ∧ By wr (h + 2) 190 (toK (colL l) k 4)) (fun i _ => 4 - (Go.RowKit.intOf i).toNat)
  case atStart => exact ⟨0, Nat.zero_le _, rfl, HG.out, HA.out, HB.out, HC.out⟩
  case round =>
    obtain ⟨k, hk, rfl, g, ha, hb, hc⟩ := hrel
    have GR := Lib.hid g; have HA1 := Lib.hid ha; have HB1 := Lib.hid hb; have HC1 := Lib.hid hc
    have p0 : (0 : Int) ≤ k := by omega
    have HTK : Hid ((toK (colL l) k 4).length = 4) := toK_len (colL_len l) hk
    by_cases hlt : k < 4
    · have t0 : decide ((k : Int) < 4) = true := decide_eq_true (by omega)
      have p4 : (k : Int) < 4 := by omega
      obtain ⟨q1, hq1⟩ : ∃ q : Nat, q = (k + 1) % 4 := ⟨_, rfl⟩
      obtain ⟨q2, hq2⟩ : ∃ q : Nat, q = (k + 2) % 4 := ⟨_, rfl⟩
      obtain ⟨q3, hq3⟩ : ∃ q : Nat, q = (k + 3) % 4 := ⟨_, rfl⟩
      have e1 : ((k : Int) + 1) % 4 = (q1 : Int) := by omega
      have e2 : ((k : Int) + 2) % 4 = (q2 : Int) := by omega
      have e3 : ((k : Int) + 3) % 4 = (q3 : Int) := by omega
      have w2 : IntKind.i64.wrap ((k : Int) + 2) = (k : Int) + 2 := IntWalk.i64_in _ (by omega)
      have w3 : IntKind.i64.wrap ((k : Int) + 3) = (k : Int) + 3 := IntWalk.i64_in _ (by omega)
      have v2 : ((k : Int) + 2).tmod 4 = (q2 : Int) := by rw [Int.tmod_eq_emod_of_nonneg (by omega)]; exact e2
      have v3 : ((k : Int) + 3).tmod 4 = (q3 : Int) := by rw [Int.tmod_eq_emod_of_nonneg (by omega)]; exact e3
      have l1 : q1 < 4 := by omega
      have l2 : q2 < 4 := by omega
      have l3 : q3 < 4 := by omega
      have i1 : (q1 : Int) < 4 := by omega
      have i2 : (q2 : Int) < 4 := by omega
      have i3 : (q3 : Int) < 4 := by omega
      have j1 : (0 : Int) ≤ q1 := by omega
      have j2 : (0 : Int) ≤ q2 := by omega
      have j3 : (0 : Int) ≤ q3 := by omega
      have HV : Hid (twB (gB l k) ^^^ gB l q1 ^^^ twB (gB l q1) ^^^ gB l q2 ^^^ gB l q3 = gB (colL l) k) := by rw [hq1, hq2, hq3]; exact refCol_eq l k hlt
      have c1 := ha.at (i := q1) (by rw [HL.out]; exact l1)
      have LD : Hid (∀ wq, Gr wr wq → ∀ j, j < 4 → wq.cell? ⟨h, j, none⟩ = some (.int .u8 (ub (gB l j)))) := fun wq hq j hj => By.at (hq.blk ha) (by rw [HL.out]; exact hj)
      clear hq1 hq2 hq3 g ha hb hc
      go_upto_region 6 with fail
      obtain ⟨x, hx⟩ : ∃ x, x = gB l k := ⟨_, rfl⟩
      obtain ⟨y, hy⟩ : ∃ y, y = gB l q1 := ⟨_, rfl⟩
      have x1 := ub_xor (twB (gB l k)) (gB l q1); have x2 := ub_xor (twB (gB l k) ^^^ gB l q1) (twB (gB l q1)); have x3 := ub_xor (twB (gB l k) ^^^ gB l q1 ^^^ twB (gB l q1)) (gB l q2); have x4 := ub_xor (twB (gB l k) ^^^ gB l q1 ^^^ twB (gB l q1) ^^^ gB l q2) (gB l q3)
      refine wp_region_grow (by kernel_rfl) [0, 0, 2, 6, 14, 0, 62, 0, 158, 510, 0, 1024, 3072, 7168, 15360, 32766, 0, 65536, 196608, 458752, 983040, 2097150, 4194303, 8388607] [.p 0, .p 1, .p 2, .p 5, .p 7, .p 10, .p 11, .p 12, .p 13, .p 16, .p 17, .p 18, .p 19, .q 3, .q 14, .q 20, .c 4, .p 6, .c 8, .p 9, .p 15, .p 21, .p 22, .s 23] (by kernel_rfl) (trivial) ?_
      refine wpG_pe rfl rfl ?_
      apply Exists.intro
      refine ⟨fun wq => ?_, ?_⟩
      · unfold plainAt
        go_simp
        first | exact rfl | exact ⟨rfl, rfl⟩
      go_simp
      refine wpG_pe rfl rfl ?_
      apply Exists.intro
      refine ⟨fun wq => ?_, ?_⟩
      · unfold plainAt
        go_simp
        first | exact rfl | exact ⟨rfl, rfl⟩
      go_simp
      refine wpG_pe rfl rfl ?_
      apply Exists.intro
      refine ⟨fun wq => ?_, ?_⟩
      · unfold plainAt
        go_simp
        first | exact rfl | exact ⟨rfl, rfl⟩
      go_simp
      refine wpG_pe rfl rfl ?_
      apply Exists.intro
      refine ⟨fun wq => ?_, ?_⟩
      · unfold plainAt
        go_simp
        first | exact rfl | exact ⟨rfl, rfl⟩
      go_simp
      refine wpG_pe rfl rfl ?_
      apply Exists.intro
      refine ⟨fun wq => ?_, ?_⟩
      · unfold plainAt
        go_simp
        first | exact rfl | exact ⟨rfl, rfl⟩
      go_simp
      refine wpG_pe rfl rfl ?_
      apply Exists.intro
      refine ⟨fun wq => ?_, ?_⟩
      · unfold plainAt
        go_simp
        first | exact rfl | exact ⟨rfl, rfl⟩
      go_simp
      refine wpG_pe rfl rfl ?_
      apply Exists.intro
      refine ⟨fun wq => ?_, ?_⟩
      · unfold plainAt
        go_simp
        first | exact rfl | exact ⟨rfl, rfl⟩
      go_simp
      refine wpG_pe rfl rfl ?_
      apply Exists.intro
      refine ⟨fun wq => ?_, ?_⟩
      · unfold plainAt
        go_simp
        first | exact rfl | exact ⟨rfl, rfl⟩
      go_simp
      refine wpG_pe rfl rfl ?_
      apply Exists.intro
      refine ⟨fun wq => ?_, ?_⟩
      · unfold plainAt
        go_simp
        first | exact rfl | exact ⟨rfl, rfl⟩
      go_simp
      refine wpG_pe rfl rfl ?_
      apply Exists.intro
      refine ⟨fun wq => ?_, ?_⟩
      · unfold plainAt
        go_simp
        first | exact rfl | exact ⟨rfl, rfl⟩
      go_simp
      refine wpG_pe rfl rfl ?_
      apply Exists.intro
      refine ⟨fun wq => ?_, ?_⟩
      · unfold plainAt
        go_simp
        first | exact rfl | exact ⟨rfl, rfl⟩
      go_simp
      refine wpG_pe rfl rfl ?_
      apply Exists.intro
      refine ⟨fun wq => ?_, ?_⟩
      · unfold plainAt
        go_simp
        first | exact rfl | exact ⟨rfl, rfl⟩
      go_simp
      refine wpG_pe rfl rfl ?_
      apply Exists.intro
      refine ⟨fun wq => ?_, ?_⟩
      · unfold plainAt
        go_simp
        first | exact rfl | exact ⟨rfl, rfl⟩
      go_simp
      refine wpG_qe rfl rfl ?_
      apply Exists.intro
      refine ⟨fun wq hq => ?_, ?_⟩
      · have c0 := LD.out wq ((Gr.drew _).trans hq) k hlt
        unfold plainAt
        go_simp
        first | exact rfl | exact ⟨rfl, rfl⟩
      go_simp
      refine wpG_qe rfl rfl ?_
      apply Exists.intro
      refine ⟨fun wq hq => ?_, ?_⟩
      · have c0 := LD.out wq ((Gr.drew _).trans hq) q2 l2
        unfold plainAt
        go_simp
        first | exact rfl | exact ⟨rfl, rfl⟩
      go_simp
      refine wpG_qe rfl rfl ?_
      apply Exists.intro
      refine ⟨fun wq hq => ?_, ?_⟩
      · have c0 := LD.out wq ((Gr.drew _).trans hq) q3 l3
        unfold plainAt
        go_simp
        first | exact rfl | exact ⟨rfl, rfl⟩
      go_simp
      refine wpG_c rfl rfl ?_
      intro w5 g5 K hK
      go_simp
      go_at_call 221
      refine (refTwice_any (gB l k) w5).mono ?_
      rintro e wn ⟨rfl, rfl⟩
      refine hK _ _ (Gr.refl _) ?_; clear hK; have G5 := Lib.hid ((Gr.drew _).trans g5); clear g5
      go_simp
      refine wpG_pe rfl rfl ?_
      apply Exists.intro
      refine ⟨fun wq => ?_, ?_⟩
      · unfold plainAt
        go_simp
        first | exact rfl | exact ⟨rfl, rfl⟩
      go_simp
      refine wpG_c rfl rfl ?_
      intro w6 g6 K hK
      go_simp
      go_at_call 221
      refine (refTwice_any (gB l q1) w6).mono ?_
      rintro e wn ⟨rfl, rfl⟩
      refine hK _ _ (Gr.refl _) ?_; clear hK; have G6 := Lib.hid (G5.out.trans g6); clear g6
      go_simp
      refine wpG_pe rfl rfl ?_
      apply Exists.intro
      refine ⟨fun wq => ?_, ?_⟩
      · unfold plainAt
        go_simp
        first | exact rfl | exact ⟨rfl, rfl⟩
      go_simp
      refine wpG_pe rfl rfl ?_
      apply Exists.intro
      refine ⟨fun wq => ?_, ?_⟩
      · unfold plainAt
        go_simp
        first | exact rfl | exact ⟨rfl, rfl⟩
      go_simp
      refine wpG_pe rfl rfl ?_
      apply Exists.intro
      refine ⟨fun wq => ?_, ?_⟩
      · unfold plainAt
        go_simp
        first | exact rfl | exact ⟨rfl, rfl⟩
      go_simp
      refine wpG_pe rfl rfl ?_
      apply Exists.intro
      refine ⟨fun wq => ?_, ?_⟩
      · unfold plainAt
        go_simp
        first | exact rfl | exact ⟨rfl, rfl⟩
      go_simp
      refine wpG_s rfl rfl ?_
      intro w7 g7 K hK
      have G7 := Lib.hid (G6.out.trans g7)
      have HA7 : Hid (By w7 h 190 l) := G7.out.blk HA1.out
      have HB7 : Hid (By w7 (h + 1) 190 (List.replicate 4 0)) := G7.out.blk HB1.out
      have HC7 : Hid (By w7 (h + 2) 190 (toK (colL l) k 4)) := G7.out.blk HC1.out
      have HG7 : Hid (Gr w w7) := GR.out.trans G7.out
      have cc := (HC7.out).at (i := k) (by first | omega | (rw [HTK.out]; omega))
      have ff := Blk.free (HC7.out) (k)
      go_simp
      refine hK _ _ ?_
      clear hK
      rw [HV.out]
      obtain ⟨W8, hW8⟩ : ∃ W8, W8 = w7.setCell ⟨h + 2, k, none⟩ (.int .u8 (ub (gB (colL l) k))) := ⟨_, rfl⟩
      have HA8 : Hid (By W8 h 190 l) := by rw [hW8]; exact (Below.heap_setCell _ ⟨h + 2, k, none⟩ _ h (by show h ≠ h + 2; omega)).trans HA7.out
      have HB8 : Hid (By W8 (h + 1) 190 (List.replicate 4 0)) := by rw [hW8]; exact (Below.heap_setCell _ ⟨h + 2, k, none⟩ _ (h + 1) (by show h + 1 ≠ h + 2; omega)).trans HB7.out
      have HC8 : Hid (By W8 (h + 2) 190 (toK (colL l) (k + 1) 4)) := by rw [hW8, ← toK_set (colL_len l) hlt]; exact HC7.out.put k _
      have HG8 : Hid (Gr w W8) := by rw [hW8]; exact HG7.out.setCell (p := ⟨h + 2, k, none⟩) (by rw [HH.out]; exact Nat.le_add_right _ _) _
      rw [← hW8]
      clear hW8 HA7 HB7 HC7 HG7 cc ff G7 g7
      refine wpG_nil ?_
      intro w9 g9
      have HA9 : Hid (By w9 h 190 l) := g9.blk HA8.out
      have HB9 : Hid (By w9 (h + 1) 190 (List.replicate 4 0)) := g9.blk HB8.out
      have HC9 : Hid (By w9 (h + 2) 190 (toK (colL l) (k + 1) 4)) := g9.blk HC8.out
      have HG9 : Hid (Gr w w9) := HG8.out.trans g9
      clear g9 HA8 HB8 HC8 HG8
      go_wp2_with fail
      go_roundw
      case rel => exact ⟨k + 1, by omega, by go_num, HG9.out, HA9.out, HB9.out, HC9.out⟩
      case measure => simp [Go.RowKit.intOf]; omega
    · obtain rfl : k = 4 := by omega
      rw [toK_all (colL_len l)] at hc
      have HC2 := Lib.hid hc
      clear g ha hb hc HC1
      go_wp2_with (first
        | (refine wpList_load_row rfl 190 (.tmp 3) rfl (h + 2) rfl 190 _ (0, 0) _ HC2.out Tryz.underlying190 rfl (size4 _ (colL_len l)) ?_)
        | (refine wpList_store_row rfl 190 (.tmp 2) (.tmp 38) rfl (h + 1) ((colL l).map u8c).toArray rfl rfl 190 _ HB1.out (size4 _ (colL_len l)) rfl (arr_one _) ?_))
      exact bodyPost_ret (v := arr (colL l)) (results_cell_row Tryz.results210 _ _ (h + 1) 190 _ (0, 0) _ rfl HB1.out.row Tryz.underlying190 rfl (size4 _ (colL_len l))) rfl ⟨rfl, byRow_below GR.out (by rw [HH.out]; exact Nat.le_succ _) _⟩
end Go.Proofs.YtcfbbgbjlgonpaaGreatDoor
