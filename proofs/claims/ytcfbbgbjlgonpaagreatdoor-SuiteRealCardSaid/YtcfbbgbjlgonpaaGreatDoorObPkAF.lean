/- Own texts of this claim, one behind the other. No condition. -/
import Derived.Test.YtcfbbgbjlgonpaaGreatDoorObPkAB
import Derived.Test.YtcfbbgbjlgonpaaGreatDoorObPkAD
import Derived.Laws.BitsAllLaws
import Derived.Test.YtcfbbgbjlgonpaaGreatDoorProg
import Derived.WalkLawsBesides
import Derived.Deep.QuietTactic
import Derived.BigQuiet
import Derived.Outline
import Derived.Laws.Rows
import Derived.Laws.Tables
import Derived.Deep.RegionHeld3
import Derived.IntWalk
import Derived.Laws.CopyRow
import Derived.Laws.CopyOwn
import Derived.Lib.LaidTab
import Derived.Deep.RegionLaw

/- ObShaL, ObShaW, ObShaX, ObShaM, ObShaB: one text. No condition. -/
/- Words of 32 bits, as the walk spells them. No condition. -/
namespace Go.Proofs.YtcfbbgbjlgonpaaGreatDoor
set_option linter.unusedVariables false
/-- A word's cell. -/
def un (x : UInt32) : Int := (x.toNat : Int)
def u32c (x : UInt32) : Value := .int .u32 (un x)
theorem u32_lt (x : UInt32) : x.toNat < 4294967296 := x.toNat_lt
theorem un_nn (x : UInt32) : 0 ≤ un x := by unfold un; omega
theorem un_lt (x : UInt32) : un x < 4294967296 := by unfold un; have := u32_lt x; omega
theorem w_xor (x y : UInt32) : bits .xor .u32 (un x) (un y) = un (x ^^^ y) := by
  unfold un
  rw [u32_xor_nat _ _ (u32_lt x) (u32_lt y), UInt32.toNat_xor]
theorem w_and (x y : UInt32) : bits .and .u32 (un x) (un y) = un (x &&& y) := by
  unfold un
  rw [u32_and_nat _ _ (u32_lt x) (u32_lt y), UInt32.toNat_and]
theorem w_or (x y : UInt32) : bits .or .u32 (un x) (un y) = un (x ||| y) := by
  unfold un
  rw [u32_or_nat _ _ (u32_lt x) (u32_lt y), UInt32.toNat_or]
theorem w_add (x y : UInt32) : IntKind.u32.wrap (un x + un y) = un (x + y) := by
  unfold un
  rw [IntKind.wrap_u32, UInt32.toNat_add]; omega
/-- Turned to the right. -/
def rotR (x : UInt32) (n : Nat) : UInt32 := UInt32.ofNat (x.toNat / 2 ^ n + x.toNat * 2 ^ (32 - n) % 4294967296)
theorem rot_lt (x : Nat) (hx : x < 4294967296) (n : Nat) (hn : n ≤ 32) : x / 2 ^ n + x * 2 ^ (32 - n) % 4294967296 < 4294967296 := by
  have e : (4294967296 : Nat) = 2 ^ n * 2 ^ (32 - n) := by rw [← Nat.pow_add]; simp [hn]
  have h1 : x / 2 ^ n < 2 ^ (32 - n) := by
    rw [Nat.div_lt_iff_lt_mul (Nat.pow_pos (by decide)), Nat.mul_comm, ← e]; exact hx
  have h2 : x * 2 ^ (32 - n) % 4294967296 = (x % 2 ^ n) * 2 ^ (32 - n) := by rw [e, Nat.mul_mod_mul_right]
  have h3 : x % 2 ^ n < 2 ^ n := Nat.mod_lt _ (Nat.pow_pos (by decide))
  have h4 : (x % 2 ^ n + 1) * 2 ^ (32 - n) ≤ 2 ^ n * 2 ^ (32 - n) := Nat.mul_le_mul_right _ h3
  rw [h2, e]
  rw [Nat.add_mul] at h4
  omega
theorem rot_nat (x : UInt32) (n : Nat) (hn : n ≤ 32) : (rotR x n).toNat = x.toNat / 2 ^ n + x.toNat * 2 ^ (32 - n) % 4294967296 := by
  unfold rotR
  rw [UInt32.toNat_ofNat_of_lt' (rot_lt _ (u32_lt x) n hn)]
theorem rot_or (x : Nat) (hx : x < 4294967296) (n : Nat) (hn : n ≤ 32) : x * 2 ^ (32 - n) % 4294967296 ||| x / 2 ^ n = x / 2 ^ n + x * 2 ^ (32 - n) % 4294967296 := by
  have e : (4294967296 : Nat) = 2 ^ n * 2 ^ (32 - n) := by rw [← Nat.pow_add]; simp [hn]
  have h1 : x / 2 ^ n < 2 ^ (32 - n) := by
    rw [Nat.div_lt_iff_lt_mul (Nat.pow_pos (by decide)), Nat.mul_comm, ← e]; exact hx
  have h2 : x * 2 ^ (32 - n) % 4294967296 = 2 ^ (32 - n) * (x % 2 ^ n) := by rw [e, Nat.mul_mod_mul_right, Nat.mul_comm]
  rw [h2, ← Nat.two_pow_add_eq_or_of_lt h1, Nat.add_comm]
theorem rot_v (x : UInt32) (n : Nat) (p q : Nat) (hn : n ≤ 32) (hp : p = 2 ^ (32 - n)) (hq : q = 2 ^ n) : bits .or .u32 (un x * (p : Int) % 4294967296) (un x / (q : Int)) = un (rotR x n) := by
  unfold un
  have h := rot_or x.toNat (u32_lt x) n hn
  have h2 := rot_lt x.toNat (u32_lt x) n hn
  subst hp hq
  have e1 : (x.toNat : Int) * ((2 ^ (32 - n) : Nat) : Int) % 4294967296 = ((x.toNat * 2 ^ (32 - n) % 4294967296 : Nat) : Int) := by rw [Int.natCast_emod, Int.natCast_mul]; rfl
  have e2 : (x.toNat : Int) / ((2 ^ n : Nat) : Int) = ((x.toNat / 2 ^ n : Nat) : Int) := by rw [Int.natCast_ediv]
  rw [e1, e2, u32_or_nat _ _ (by omega) (by omega), h, rot_nat x n hn]
theorem rot_v' (x : UInt32) (n : Nat) (p q : Nat) (hn : n ≤ 32) (hp : p = 2 ^ (32 - n)) (hq : q = 2 ^ n) : bits .or .u32 (un x / (q : Int)) (un x * (p : Int) % 4294967296) = un (rotR x n) := by
  unfold un
  have h := rot_or x.toNat (u32_lt x) n hn
  have h2 := rot_lt x.toNat (u32_lt x) n hn
  subst hp hq
  have e1 : (x.toNat : Int) * ((2 ^ (32 - n) : Nat) : Int) % 4294967296 = ((x.toNat * 2 ^ (32 - n) % 4294967296 : Nat) : Int) := by rw [Int.natCast_emod, Int.natCast_mul]; rfl
  have e2 : (x.toNat : Int) / ((2 ^ n : Nat) : Int) = ((x.toNat / 2 ^ n : Nat) : Int) := by rw [Int.natCast_ediv]
  rw [e1, e2, u32_or_nat _ _ (by omega) (by omega), Nat.or_comm, h, rot_nat x n hn]
def shrW (x : UInt32) (n : Nat) : UInt32 := UInt32.ofNat (x.toNat / 2 ^ n)
theorem shr_nat (x : UInt32) (n : Nat) : (shrW x n).toNat = x.toNat / 2 ^ n := by
  unfold shrW
  rw [UInt32.toNat_ofNat_of_lt' (Nat.lt_of_le_of_lt (Nat.div_le_self _ _) (u32_lt x))]
theorem shr3 (x : UInt32) : un x / 8 = un (shrW x 3) := by unfold un; rw [shr_nat, Int.natCast_ediv]; rfl
theorem shr10 (x : UInt32) : un x / 1024 = un (shrW x 10) := by unfold un; rw [shr_nat, Int.natCast_ediv]; rfl
theorem w_add' (x y : UInt32) : (un x + un y) % 4294967296 = un (x + y) := by unfold un; rw [UInt32.toNat_add]; omega
def sg0 (x : UInt32) : UInt32 := rotR x 7 ^^^ rotR x 18 ^^^ shrW x 3
def sg1 (x : UInt32) : UInt32 := rotR x 17 ^^^ rotR x 19 ^^^ shrW x 10
def bs0 (x : UInt32) : UInt32 := rotR x 2 ^^^ rotR x 13 ^^^ rotR x 22
def bs1 (x : UInt32) : UInt32 := rotR x 6 ^^^ rotR x 11 ^^^ rotR x 25
/-! ### a block's words -/
def wordAt (b : List UInt8) (t : Nat) : UInt32 := UInt32.ofNat (getL ((b.drop (4 * t)).take 4))
def wNext (ws : List UInt32) (t : Nat) : UInt32 := sg1 (ws.getD (t - 2) 0) + ws.getD (t - 7) 0 + sg0 (ws.getD (t - 15) 0) + ws.getD (t - 16) 0
def wTo (b : List UInt8) : Nat → List UInt32
  | 0 => []
  | t + 1 => wTo b t ++ [if t < 16 then wordAt b t else wNext (wTo b t) t]
theorem wTo_len (b : List UInt8) : ∀ t, (wTo b t).length = t
  | 0 => rfl
  | t + 1 => by simp [wTo, wTo_len b t]
def wCells (b : List UInt8) (t : Nat) : List Value := (wTo b t).map u32c ++ reps (64 - t) (.int .u32 0)
theorem wCells_len (b : List UInt8) (t : Nat) (h : t ≤ 64) : (wCells b t).length = 64 := by simp [wCells, wTo_len, reps_length]; omega
theorem wCells_at (b : List UInt8) (t j : Nat) (h : j < t) : (wCells b t)[j]? = some (.int .u32 (un ((wTo b t).getD j 0))) := by
  have hl := wTo_len b t
  unfold wCells
  rw [List.getElem?_append_left (by simp [hl]; exact h), List.getElem?_map, List.getElem?_eq_getElem (by omega), List.getD_eq_getElem?_getD, List.getElem?_eq_getElem (by omega)]
  rfl
theorem wCells_rest (b : List UInt8) (t : Nat) (h : t < 64) : (wCells b t)[t]? = some (.int .u32 0) := by
  have hl := wTo_len b t
  unfold wCells
  rw [List.getElem?_append_right (by simp [hl]), List.length_map, hl, Nat.sub_self]
  exact reps_at _ (by omega)
theorem wCells_set (b : List UInt8) (t : Nat) (x : UInt32) (h : t < 64) (hx : (if t < 16 then wordAt b t else wNext (wTo b t) t) = x) : (wCells b t).set t (.int .u32 (un x)) = wCells b (t + 1) := by
  have hl := wTo_len b t
  unfold wCells
  rw [List.set_append_right _ _ (by simp [hl]), List.length_map, hl, Nat.sub_self, show 64 - t = (64 - (t + 1)) + 1 by omega]
  rw [show reps (64 - (t + 1) + 1) (.int .u32 0) = .int .u32 0 :: reps (64 - (t + 1)) (.int .u32 0) by simp [reps, List.replicate_succ], List.set_cons_zero, wTo, hx, List.map_append, List.append_assoc]
  rfl
theorem wCells_zero (b : List UInt8) : wCells b 0 = reps 64 (.int .u32 0) := rfl
theorem wCells_all (b : List UInt8) : wCells b 64 = (wTo b 64).map u32c := by simp [wCells, reps]
end Go.Proofs.YtcfbbgbjlgonpaaGreatDoor
namespace Go.Proofs.YtcfbbgbjlgonpaaGreatDoor
open Go.RowKit
set_option linter.unusedVariables false

/-! ### turned words -/
theorem rotl2_any (x : UInt32) (w : World) : Calls Tryz.prog 203 #[.int .u32 (un x), .int .i64 (-2)] w fun e w' => e = .returned (.int .u32 (un (rotR x 2))) ∧ w = w' := by
  have hx := un_lt x
  have hx0 := un_nn x
  have h1 : bits .and .u64 (IntKind.u64.wrap (-2)) 31 = 30 := by decide
  have h2 := rot_v x 2 1073741824 4 (by decide) (by decide) (by decide)
  have H2 := Lib.hid h2; clear h2
  go_enter Tryz.func203, Tryz.ntmps203
  go_wp2
  go_ret
  exact ⟨ret_int H2.out, rfl⟩
theorem right2_any (x : UInt32) (w : World) : Calls Tryz.prog 190 #[.int .u32 (un x), .int .i64 2] w fun e w' => e = .returned (.int .u32 (un (rotR x 2))) ∧ w = w' := by
  have hx := un_lt x
  have hx0 := un_nn x
  go_enter Tryz.func190, Tryz.ntmps190
  go_wp2_with (go_at_call 203; refine (rotl2_any x _).mono ?_; rintro e w' ⟨rfl, rfl⟩)
  go_ret
  exact ⟨rfl, rfl⟩
theorem refRight2_any (x : UInt32) (w : World) : Calls Tryz.prog 198 #[.int .u32 (un x), .int .i64 2] w fun e w' => e = .returned (.int .u32 (un (rotR x 2))) ∧ ∃ k, w' = w.drewN k := by
  have hx := un_lt x
  have hx0 := un_nn x
  have h2 := rot_v' x 2 1073741824 4 (by decide) (by decide) (by decide)
  have H2 := Lib.hid h2; clear h2
  go_enter Tryz.func198, Tryz.ntmps198
  go_wp2
  go_quiet (fail)
  go_wp2
  go_ret
  exact ⟨ret_int H2.out, _, rfl⟩
theorem rotl6_any (x : UInt32) (w : World) : Calls Tryz.prog 203 #[.int .u32 (un x), .int .i64 (-6)] w fun e w' => e = .returned (.int .u32 (un (rotR x 6))) ∧ w = w' := by
  have hx := un_lt x
  have hx0 := un_nn x
  have h1 : bits .and .u64 (IntKind.u64.wrap (-6)) 31 = 26 := by decide
  have h2 := rot_v x 6 67108864 64 (by decide) (by decide) (by decide)
  have H2 := Lib.hid h2; clear h2
  go_enter Tryz.func203, Tryz.ntmps203
  go_wp2
  go_ret
  exact ⟨ret_int H2.out, rfl⟩
theorem right6_any (x : UInt32) (w : World) : Calls Tryz.prog 190 #[.int .u32 (un x), .int .i64 6] w fun e w' => e = .returned (.int .u32 (un (rotR x 6))) ∧ w = w' := by
  have hx := un_lt x
  have hx0 := un_nn x
  go_enter Tryz.func190, Tryz.ntmps190
  go_wp2_with (go_at_call 203; refine (rotl6_any x _).mono ?_; rintro e w' ⟨rfl, rfl⟩)
  go_ret
  exact ⟨rfl, rfl⟩
theorem refRight6_any (x : UInt32) (w : World) : Calls Tryz.prog 198 #[.int .u32 (un x), .int .i64 6] w fun e w' => e = .returned (.int .u32 (un (rotR x 6))) ∧ ∃ k, w' = w.drewN k := by
  have hx := un_lt x
  have hx0 := un_nn x
  have h2 := rot_v' x 6 67108864 64 (by decide) (by decide) (by decide)
  have H2 := Lib.hid h2; clear h2
  go_enter Tryz.func198, Tryz.ntmps198
  go_wp2
  go_quiet (fail)
  go_wp2
  go_ret
  exact ⟨ret_int H2.out, _, rfl⟩
theorem rotl7_any (x : UInt32) (w : World) : Calls Tryz.prog 203 #[.int .u32 (un x), .int .i64 (-7)] w fun e w' => e = .returned (.int .u32 (un (rotR x 7))) ∧ w = w' := by
  have hx := un_lt x
  have hx0 := un_nn x
  have h1 : bits .and .u64 (IntKind.u64.wrap (-7)) 31 = 25 := by decide
  have h2 := rot_v x 7 33554432 128 (by decide) (by decide) (by decide)
  have H2 := Lib.hid h2; clear h2
  go_enter Tryz.func203, Tryz.ntmps203
  go_wp2
  go_ret
  exact ⟨ret_int H2.out, rfl⟩
theorem right7_any (x : UInt32) (w : World) : Calls Tryz.prog 190 #[.int .u32 (un x), .int .i64 7] w fun e w' => e = .returned (.int .u32 (un (rotR x 7))) ∧ w = w' := by
  have hx := un_lt x
  have hx0 := un_nn x
  go_enter Tryz.func190, Tryz.ntmps190
  go_wp2_with (go_at_call 203; refine (rotl7_any x _).mono ?_; rintro e w' ⟨rfl, rfl⟩)
  go_ret
  exact ⟨rfl, rfl⟩
theorem refRight7_any (x : UInt32) (w : World) : Calls Tryz.prog 198 #[.int .u32 (un x), .int .i64 7] w fun e w' => e = .returned (.int .u32 (un (rotR x 7))) ∧ ∃ k, w' = w.drewN k := by
  have hx := un_lt x
  have hx0 := un_nn x
  have h2 := rot_v' x 7 33554432 128 (by decide) (by decide) (by decide)
  have H2 := Lib.hid h2; clear h2
  go_enter Tryz.func198, Tryz.ntmps198
  go_wp2
  go_quiet (fail)
  go_wp2
  go_ret
  exact ⟨ret_int H2.out, _, rfl⟩
theorem rotl11_any (x : UInt32) (w : World) : Calls Tryz.prog 203 #[.int .u32 (un x), .int .i64 (-11)] w fun e w' => e = .returned (.int .u32 (un (rotR x 11))) ∧ w = w' := by
  have hx := un_lt x
  have hx0 := un_nn x
  have h1 : bits .and .u64 (IntKind.u64.wrap (-11)) 31 = 21 := by decide
  have h2 := rot_v x 11 2097152 2048 (by decide) (by decide) (by decide)
  have H2 := Lib.hid h2; clear h2
  go_enter Tryz.func203, Tryz.ntmps203
  go_wp2
  go_ret
  exact ⟨ret_int H2.out, rfl⟩
theorem right11_any (x : UInt32) (w : World) : Calls Tryz.prog 190 #[.int .u32 (un x), .int .i64 11] w fun e w' => e = .returned (.int .u32 (un (rotR x 11))) ∧ w = w' := by
  have hx := un_lt x
  have hx0 := un_nn x
  go_enter Tryz.func190, Tryz.ntmps190
  go_wp2_with (go_at_call 203; refine (rotl11_any x _).mono ?_; rintro e w' ⟨rfl, rfl⟩)
  go_ret
  exact ⟨rfl, rfl⟩
theorem refRight11_any (x : UInt32) (w : World) : Calls Tryz.prog 198 #[.int .u32 (un x), .int .i64 11] w fun e w' => e = .returned (.int .u32 (un (rotR x 11))) ∧ ∃ k, w' = w.drewN k := by
  have hx := un_lt x
  have hx0 := un_nn x
  have h2 := rot_v' x 11 2097152 2048 (by decide) (by decide) (by decide)
  have H2 := Lib.hid h2; clear h2
  go_enter Tryz.func198, Tryz.ntmps198
  go_wp2
  go_quiet (fail)
  go_wp2
  go_ret
  exact ⟨ret_int H2.out, _, rfl⟩
theorem rotl13_any (x : UInt32) (w : World) : Calls Tryz.prog 203 #[.int .u32 (un x), .int .i64 (-13)] w fun e w' => e = .returned (.int .u32 (un (rotR x 13))) ∧ w = w' := by
  have hx := un_lt x
  have hx0 := un_nn x
  have h1 : bits .and .u64 (IntKind.u64.wrap (-13)) 31 = 19 := by decide
  have h2 := rot_v x 13 524288 8192 (by decide) (by decide) (by decide)
  have H2 := Lib.hid h2; clear h2
  go_enter Tryz.func203, Tryz.ntmps203
  go_wp2
  go_ret
  exact ⟨ret_int H2.out, rfl⟩
theorem right13_any (x : UInt32) (w : World) : Calls Tryz.prog 190 #[.int .u32 (un x), .int .i64 13] w fun e w' => e = .returned (.int .u32 (un (rotR x 13))) ∧ w = w' := by
  have hx := un_lt x
  have hx0 := un_nn x
  go_enter Tryz.func190, Tryz.ntmps190
  go_wp2_with (go_at_call 203; refine (rotl13_any x _).mono ?_; rintro e w' ⟨rfl, rfl⟩)
  go_ret
  exact ⟨rfl, rfl⟩
theorem refRight13_any (x : UInt32) (w : World) : Calls Tryz.prog 198 #[.int .u32 (un x), .int .i64 13] w fun e w' => e = .returned (.int .u32 (un (rotR x 13))) ∧ ∃ k, w' = w.drewN k := by
  have hx := un_lt x
  have hx0 := un_nn x
  have h2 := rot_v' x 13 524288 8192 (by decide) (by decide) (by decide)
  have H2 := Lib.hid h2; clear h2
  go_enter Tryz.func198, Tryz.ntmps198
  go_wp2
  go_quiet (fail)
  go_wp2
  go_ret
  exact ⟨ret_int H2.out, _, rfl⟩
theorem rotl17_any (x : UInt32) (w : World) : Calls Tryz.prog 203 #[.int .u32 (un x), .int .i64 (-17)] w fun e w' => e = .returned (.int .u32 (un (rotR x 17))) ∧ w = w' := by
  have hx := un_lt x
  have hx0 := un_nn x
  have h1 : bits .and .u64 (IntKind.u64.wrap (-17)) 31 = 15 := by decide
  have h2 := rot_v x 17 32768 131072 (by decide) (by decide) (by decide)
  have H2 := Lib.hid h2; clear h2
  go_enter Tryz.func203, Tryz.ntmps203
  go_wp2
  go_ret
  exact ⟨ret_int H2.out, rfl⟩
theorem right17_any (x : UInt32) (w : World) : Calls Tryz.prog 190 #[.int .u32 (un x), .int .i64 17] w fun e w' => e = .returned (.int .u32 (un (rotR x 17))) ∧ w = w' := by
  have hx := un_lt x
  have hx0 := un_nn x
  go_enter Tryz.func190, Tryz.ntmps190
  go_wp2_with (go_at_call 203; refine (rotl17_any x _).mono ?_; rintro e w' ⟨rfl, rfl⟩)
  go_ret
  exact ⟨rfl, rfl⟩
theorem refRight17_any (x : UInt32) (w : World) : Calls Tryz.prog 198 #[.int .u32 (un x), .int .i64 17] w fun e w' => e = .returned (.int .u32 (un (rotR x 17))) ∧ ∃ k, w' = w.drewN k := by
  have hx := un_lt x
  have hx0 := un_nn x
  have h2 := rot_v' x 17 32768 131072 (by decide) (by decide) (by decide)
  have H2 := Lib.hid h2; clear h2
  go_enter Tryz.func198, Tryz.ntmps198
  go_wp2
  go_quiet (fail)
  go_wp2
  go_ret
  exact ⟨ret_int H2.out, _, rfl⟩
theorem rotl18_any (x : UInt32) (w : World) : Calls Tryz.prog 203 #[.int .u32 (un x), .int .i64 (-18)] w fun e w' => e = .returned (.int .u32 (un (rotR x 18))) ∧ w = w' := by
  have hx := un_lt x
  have hx0 := un_nn x
  have h1 : bits .and .u64 (IntKind.u64.wrap (-18)) 31 = 14 := by decide
  have h2 := rot_v x 18 16384 262144 (by decide) (by decide) (by decide)
  have H2 := Lib.hid h2; clear h2
  go_enter Tryz.func203, Tryz.ntmps203
  go_wp2
  go_ret
  exact ⟨ret_int H2.out, rfl⟩
theorem right18_any (x : UInt32) (w : World) : Calls Tryz.prog 190 #[.int .u32 (un x), .int .i64 18] w fun e w' => e = .returned (.int .u32 (un (rotR x 18))) ∧ w = w' := by
  have hx := un_lt x
  have hx0 := un_nn x
  go_enter Tryz.func190, Tryz.ntmps190
  go_wp2_with (go_at_call 203; refine (rotl18_any x _).mono ?_; rintro e w' ⟨rfl, rfl⟩)
  go_ret
  exact ⟨rfl, rfl⟩
theorem refRight18_any (x : UInt32) (w : World) : Calls Tryz.prog 198 #[.int .u32 (un x), .int .i64 18] w fun e w' => e = .returned (.int .u32 (un (rotR x 18))) ∧ ∃ k, w' = w.drewN k := by
  have hx := un_lt x
  have hx0 := un_nn x
  have h2 := rot_v' x 18 16384 262144 (by decide) (by decide) (by decide)
  have H2 := Lib.hid h2; clear h2
  go_enter Tryz.func198, Tryz.ntmps198
  go_wp2
  go_quiet (fail)
  go_wp2
  go_ret
  exact ⟨ret_int H2.out, _, rfl⟩
theorem rotl19_any (x : UInt32) (w : World) : Calls Tryz.prog 203 #[.int .u32 (un x), .int .i64 (-19)] w fun e w' => e = .returned (.int .u32 (un (rotR x 19))) ∧ w = w' := by
  have hx := un_lt x
  have hx0 := un_nn x
  have h1 : bits .and .u64 (IntKind.u64.wrap (-19)) 31 = 13 := by decide
  have h2 := rot_v x 19 8192 524288 (by decide) (by decide) (by decide)
  have H2 := Lib.hid h2; clear h2
  go_enter Tryz.func203, Tryz.ntmps203
  go_wp2
  go_ret
  exact ⟨ret_int H2.out, rfl⟩
theorem right19_any (x : UInt32) (w : World) : Calls Tryz.prog 190 #[.int .u32 (un x), .int .i64 19] w fun e w' => e = .returned (.int .u32 (un (rotR x 19))) ∧ w = w' := by
  have hx := un_lt x
  have hx0 := un_nn x
  go_enter Tryz.func190, Tryz.ntmps190
  go_wp2_with (go_at_call 203; refine (rotl19_any x _).mono ?_; rintro e w' ⟨rfl, rfl⟩)
  go_ret
  exact ⟨rfl, rfl⟩
theorem refRight19_any (x : UInt32) (w : World) : Calls Tryz.prog 198 #[.int .u32 (un x), .int .i64 19] w fun e w' => e = .returned (.int .u32 (un (rotR x 19))) ∧ ∃ k, w' = w.drewN k := by
  have hx := un_lt x
  have hx0 := un_nn x
  have h2 := rot_v' x 19 8192 524288 (by decide) (by decide) (by decide)
  have H2 := Lib.hid h2; clear h2
  go_enter Tryz.func198, Tryz.ntmps198
  go_wp2
  go_quiet (fail)
  go_wp2
  go_ret
  exact ⟨ret_int H2.out, _, rfl⟩
theorem rotl22_any (x : UInt32) (w : World) : Calls Tryz.prog 203 #[.int .u32 (un x), .int .i64 (-22)] w fun e w' => e = .returned (.int .u32 (un (rotR x 22))) ∧ w = w' := by
  have hx := un_lt x
  have hx0 := un_nn x
  have h1 : bits .and .u64 (IntKind.u64.wrap (-22)) 31 = 10 := by decide
  have h2 := rot_v x 22 1024 4194304 (by decide) (by decide) (by decide)
  have H2 := Lib.hid h2; clear h2
  go_enter Tryz.func203, Tryz.ntmps203
  go_wp2
  go_ret
  exact ⟨ret_int H2.out, rfl⟩
theorem right22_any (x : UInt32) (w : World) : Calls Tryz.prog 190 #[.int .u32 (un x), .int .i64 22] w fun e w' => e = .returned (.int .u32 (un (rotR x 22))) ∧ w = w' := by
  have hx := un_lt x
  have hx0 := un_nn x
  go_enter Tryz.func190, Tryz.ntmps190
  go_wp2_with (go_at_call 203; refine (rotl22_any x _).mono ?_; rintro e w' ⟨rfl, rfl⟩)
  go_ret
  exact ⟨rfl, rfl⟩
theorem refRight22_any (x : UInt32) (w : World) : Calls Tryz.prog 198 #[.int .u32 (un x), .int .i64 22] w fun e w' => e = .returned (.int .u32 (un (rotR x 22))) ∧ ∃ k, w' = w.drewN k := by
  have hx := un_lt x
  have hx0 := un_nn x
  have h2 := rot_v' x 22 1024 4194304 (by decide) (by decide) (by decide)
  have H2 := Lib.hid h2; clear h2
  go_enter Tryz.func198, Tryz.ntmps198
  go_wp2
  go_quiet (fail)
  go_wp2
  go_ret
  exact ⟨ret_int H2.out, _, rfl⟩
theorem rotl25_any (x : UInt32) (w : World) : Calls Tryz.prog 203 #[.int .u32 (un x), .int .i64 (-25)] w fun e w' => e = .returned (.int .u32 (un (rotR x 25))) ∧ w = w' := by
  have hx := un_lt x
  have hx0 := un_nn x
  have h1 : bits .and .u64 (IntKind.u64.wrap (-25)) 31 = 7 := by decide
  have h2 := rot_v x 25 128 33554432 (by decide) (by decide) (by decide)
  have H2 := Lib.hid h2; clear h2
  go_enter Tryz.func203, Tryz.ntmps203
  go_wp2
  go_ret
  exact ⟨ret_int H2.out, rfl⟩
theorem right25_any (x : UInt32) (w : World) : Calls Tryz.prog 190 #[.int .u32 (un x), .int .i64 25] w fun e w' => e = .returned (.int .u32 (un (rotR x 25))) ∧ w = w' := by
  have hx := un_lt x
  have hx0 := un_nn x
  go_enter Tryz.func190, Tryz.ntmps190
  go_wp2_with (go_at_call 203; refine (rotl25_any x _).mono ?_; rintro e w' ⟨rfl, rfl⟩)
  go_ret
  exact ⟨rfl, rfl⟩
theorem refRight25_any (x : UInt32) (w : World) : Calls Tryz.prog 198 #[.int .u32 (un x), .int .i64 25] w fun e w' => e = .returned (.int .u32 (un (rotR x 25))) ∧ ∃ k, w' = w.drewN k := by
  have hx := un_lt x
  have hx0 := un_nn x
  have h2 := rot_v' x 25 128 33554432 (by decide) (by decide) (by decide)
  have H2 := Lib.hid h2; clear h2
  go_enter Tryz.func198, Tryz.ntmps198
  go_wp2
  go_quiet (fail)
  go_wp2
  go_ret
  exact ⟨ret_int H2.out, _, rfl⟩

/-! ### of the words -/
theorem low_any (x : UInt32) (w : World) : Calls Tryz.prog 201 #[.int .u32 (un x)] w fun e w' => e = .returned (.int .u32 (un (sg0 x))) ∧ w = w' := by
  have hx := un_lt x
  have hx0 := un_nn x
  have r1 := w_xor
  have r2 := shr3 x
  go_enter Tryz.func201, Tryz.ntmps201
  go_wp2_with (first
    | (go_at_call 190; (with_reducible refine (right7_any x _).mono ?_); rintro e w' ⟨rfl, rfl⟩)
    | (go_at_call 190; (with_reducible refine (right18_any x _).mono ?_); rintro e w' ⟨rfl, rfl⟩))
  go_ret
  exact ⟨rfl, rfl⟩
theorem high_any (x : UInt32) (w : World) : Calls Tryz.prog 202 #[.int .u32 (un x)] w fun e w' => e = .returned (.int .u32 (un (sg1 x))) ∧ w = w' := by
  have hx := un_lt x
  have hx0 := un_nn x
  have r1 := w_xor
  have r2 := shr10 x
  go_enter Tryz.func202, Tryz.ntmps202
  go_wp2_with (first
    | (go_at_call 190; (with_reducible refine (right17_any x _).mono ?_); rintro e w' ⟨rfl, rfl⟩)
    | (go_at_call 190; (with_reducible refine (right19_any x _).mono ?_); rintro e w' ⟨rfl, rfl⟩))
  go_ret
  exact ⟨rfl, rfl⟩
end Go.Proofs.YtcfbbgbjlgonpaaGreatDoor
namespace Go.Proofs.YtcfbbgbjlgonpaaGreatDoor
open Go.RowKit
set_option linter.unusedVariables false

theorem Sl.part {w : World} {b o n c : Nat} {l : List UInt8} (h : Bs w (some ⟨b, o, none⟩) n c l) {lo m : Nat} (hk : lo + m ≤ n) : Bs w (some ⟨b, o + lo, none⟩) m (c - lo) ((l.drop lo).take m) := by
  have h1 := Sl.from (A' := some ⟨b, o + lo, none⟩) h (show lo ≤ n by omega) (fun _ b' o' e => by injection e with e; injection e with e1 e2; subst e1 e2; rfl)
  have h2 := Sl.upto h1 (show m ≤ n - lo by omega)
  rw [← List.map_drop, ← List.map_take] at h2
  exact h2
theorem run_part (b o c t : Nat) (h : 4 * t + 4 ≤ c) (h2 : t < 16) (w : World) : (Instr.slice 28 (.slice (some ⟨b, o, none⟩) 64 c) (some (.int .i64 (4 * (t : Int)))) (some (.int .i64 (4 * ((t : Int) + 1)))) none).run Tryz.prog w = .ok (.slice (some ⟨b, o + 4 * t, none⟩) 4 (c - 4 * t)) w := by
  obtain ⟨i, hi, hz, hsz, hby⟩ := info_parts tBytes.info
  have he : Tryz.prog.elem 28 = 5 := by simp [Program.elem, tBytes.und]
  have hu : Tryz.prog.underlying 28 = some (.slice (Tryz.prog.elem 28)) := by rw [he]; exact tBytes.und
  rw [run_slice_lh w 28 (some ⟨b, o, none⟩) 64 c hu .i64 .i64 (4 * (t : Int)) (4 * ((t : Int) + 1)) (by omega) (by omega) (by omega)]
  have e1 : (4 * (t : Int)).toNat = 4 * t := by omega
  have e2 : (4 * ((t : Int) + 1)).toNat - 4 * t = 4 := by omega
  have e3 : ¬ c - 4 * t = 0 := by omega
  simp [sizeOf, typeInfo, he, hi, Result.andThen, sliced, hsz, e1, e2, add_flat]
  omega
theorem word_get (l : List UInt8) (t : Nat) : (getL ((l.drop (4 * t)).take 4) : Int) = un (wordAt l t) := by
  unfold wordAt un
  have h := getL_lt ((l.drop (4 * t)).take 4)
  have h2 : ((l.drop (4 * t)).take 4).length ≤ 4 := List.length_take_le _ _
  have h3 : (256 : Nat) ^ ((l.drop (4 * t)).take 4).length ≤ 256 ^ 4 := Nat.pow_le_pow_right (by decide) h2
  rw [UInt32.toNat_ofNat_of_lt' (by show _ < 4294967296; omega)]

theorem below_row {B : Nat} {w0 w : World} {g : Nat} (h : Below B w0 w) (hg : B ≤ g) (cs : Array Value) : Below B w0 (w.setRow g cs) :=
  ⟨h.os, h.tape, h.output, by simpa [World.setRow] using h.size, fun k hk => by
    have hne : g ≠ k := by omega
    rw [← h.block k hk]
    simp [World.setRow, Array.getElem?_modify, hne]⟩
theorem all_one_words (ws : List UInt32) : (ws.map u32c).toArray.all (·.oneCell') = true := by
  rw [List.all_toArray, List.all_eq_true]
  intro v hv
  obtain ⟨x, _, rfl⟩ := List.mem_map.1 hv
  rfl
set_option maxRecDepth 100000 in
set_option maxHeartbeats 1000000 in
theorem words_any (A : Option Addr) (c : Nat) (l : List UInt8) (w : World) (h : Bs w A 64 c l) :
    Calls Tryz.prog 189 #[.slice A 64 c] w fun e w' => e = .returned (.agg ((wTo l 64).map u32c).toArray) ∧ Below w.heap.size w w' := by
  obtain ⟨b, o, rfl, hcell⟩ := h.addr (by omega)
  have hcap := h.cap
  have hmax := h.max
  have HH := Lib.hid h; clear h hcell
  have hblt : b < w.heap.size := by
    obtain ⟨b', o', e, hc⟩ := HH.out.addr (by omega)
    injection e with e
    injection e with e1 e2
    subst e1 e2
    exact World.block_lt_of_cell? w _ (hc 0 (by omega))
  go_enter Tryz.func189, Tryz.ntmps189
  go_wp2
  go_loopw [12] (fun i wr => ∃ t : Nat, t ≤ 64 ∧ i = .int .i64 t ∧ Blk wr w.heap.size 187 (wCells l t) ∧ Below w.heap.size w wr) (fun i _ => 64 - (intOf i).toNat)
  case atStart => exact ⟨0, by omega, rfl, Blk.new w _ _, (Below.refl _ _).alloc (Nat.le_refl _) _⟩
  case round =>
    obtain ⟨t, ht, rfl, hblk, hbel⟩ := hrel
    have HBK := Lib.hid hblk
    by_cases hlt : t < 64
    · have hfree := hblk.free t
      have hat : wr.cell? ⟨w.heap.size, t, none⟩ = some (.int .u32 0) := by rw [hblk.cell]; exact wCells_rest l t hlt
      clear hblk
      by_cases h16 : t < 16
      · have hsl : ∀ w', (Instr.slice 28 (.slice (some ⟨b, o, none⟩) 64 c) (some (.int .i64 (4 * (t : Int)))) (some (.int .i64 (4 * ((t : Int) + 1)))) none).run Tryz.prog w' = .ok (.slice (some ⟨b, o + 4 * t, none⟩) 4 (c - 4 * t)) w' := run_part b o c t (by omega) (by omega)
        have HG := Lib.hid (get_yes (some ⟨b, o + 4 * t, none⟩) 4 (c - 4 * t) _ wr (Sl.part (HH.out.mono hbel) (lo := 4 * t) (m := 4) (by omega)) (by omega) (by omega))
        rw [word_get] at HG
        have HS := Lib.hid (wCells_set l t (wordAt l t) hlt (if_pos h16))
        have u1 := un_nn (wordAt l t)
        have u2 := un_lt (wordAt l t)
        have u3 : IntKind.u32.wrap (un (wordAt l t)) = un (wordAt l t) := by rw [IntKind.wrap_u32]; omega
        generalize wordAt l t = x at *
        have U3 := Lib.hid u3
        clear u1 u2 u3
        go_wp2_with fail
        refine HG.out.mono ?_
        rintro e w' ⟨rfl, rfl⟩
        have u3 := U3.out
        go_wp2
        go_roundw
        case rel => exact ⟨t + 1, by omega, by go_num, by rw [← HS.out]; exact HBK.out.set t _, hbel.setCell (p := ⟨w.heap.size, t, none⟩) (Nat.le_refl _) _⟩
        case measure => simp [intOf]; omega
      · have HS := Lib.hid (wCells_set l t (wNext (wTo l t) t) hlt (if_neg h16))
        have HNX : Hid (wNext (wTo l t) t = sg1 ((wTo l t).getD (t - 2) 0) + (wTo l t).getD (t - 7) 0 + sg0 ((wTo l t).getD (t - 15) 0) + (wTo l t).getD (t - 16) 0) := rfl
        obtain ⟨j2, x2, hj2, hx2, a2⟩ : ∃ j x, j + 2 = t ∧ (wTo l t).getD (t - 2) 0 = x ∧ wr.cell? ⟨w.heap.size, j, none⟩ = some (.int .u32 (un x)) := ⟨t - 2, _, by omega, rfl, by rw [HBK.out.cell]; exact wCells_at l t _ (by omega)⟩
        have k2 : Hid (∀ v, (wr.setCell ⟨w.heap.size, t, none⟩ v).drew.cell? ⟨w.heap.size, j2, none⟩ = some (.int .u32 (un x2))) := fun v => ((HBK.out.set t v).drew.cell j2).trans (by rw [List.getElem?_set_ne (by omega), ← HBK.out.cell]; exact a2)
        have i2 : IntKind.i64.wrap ((t : Int) - 2) = (j2 : Int) := by rw [IntWalk.i64_in _ (by omega)]; omega
        have p2 : (0 : Int) ≤ (j2 : Int) := by omega
        have q2 : (j2 : Int) < 64 := by omega
        obtain ⟨j7, x7, hj7, hx7, a7⟩ : ∃ j x, j + 7 = t ∧ (wTo l t).getD (t - 7) 0 = x ∧ wr.cell? ⟨w.heap.size, j, none⟩ = some (.int .u32 (un x)) := ⟨t - 7, _, by omega, rfl, by rw [HBK.out.cell]; exact wCells_at l t _ (by omega)⟩
        have k7 : Hid (∀ v, (wr.setCell ⟨w.heap.size, t, none⟩ v).drew.cell? ⟨w.heap.size, j7, none⟩ = some (.int .u32 (un x7))) := fun v => ((HBK.out.set t v).drew.cell j7).trans (by rw [List.getElem?_set_ne (by omega), ← HBK.out.cell]; exact a7)
        have i7 : IntKind.i64.wrap ((t : Int) - 7) = (j7 : Int) := by rw [IntWalk.i64_in _ (by omega)]; omega
        have p7 : (0 : Int) ≤ (j7 : Int) := by omega
        have q7 : (j7 : Int) < 64 := by omega
        obtain ⟨j15, x15, hj15, hx15, a15⟩ : ∃ j x, j + 15 = t ∧ (wTo l t).getD (t - 15) 0 = x ∧ wr.cell? ⟨w.heap.size, j, none⟩ = some (.int .u32 (un x)) := ⟨t - 15, _, by omega, rfl, by rw [HBK.out.cell]; exact wCells_at l t _ (by omega)⟩
        have k15 : Hid (∀ v, (wr.setCell ⟨w.heap.size, t, none⟩ v).drew.cell? ⟨w.heap.size, j15, none⟩ = some (.int .u32 (un x15))) := fun v => ((HBK.out.set t v).drew.cell j15).trans (by rw [List.getElem?_set_ne (by omega), ← HBK.out.cell]; exact a15)
        have i15 : IntKind.i64.wrap ((t : Int) - 15) = (j15 : Int) := by rw [IntWalk.i64_in _ (by omega)]; omega
        have p15 : (0 : Int) ≤ (j15 : Int) := by omega
        have q15 : (j15 : Int) < 64 := by omega
        obtain ⟨j16, x16, hj16, hx16, a16⟩ : ∃ j x, j + 16 = t ∧ (wTo l t).getD (t - 16) 0 = x ∧ wr.cell? ⟨w.heap.size, j, none⟩ = some (.int .u32 (un x)) := ⟨t - 16, _, by omega, rfl, by rw [HBK.out.cell]; exact wCells_at l t _ (by omega)⟩
        have k16 : Hid (∀ v, (wr.setCell ⟨w.heap.size, t, none⟩ v).drew.cell? ⟨w.heap.size, j16, none⟩ = some (.int .u32 (un x16))) := fun v => ((HBK.out.set t v).drew.cell j16).trans (by rw [List.getElem?_set_ne (by omega), ← HBK.out.cell]; exact a16)
        have i16 : IntKind.i64.wrap ((t : Int) - 16) = (j16 : Int) := by rw [IntWalk.i64_in _ (by omega)]; omega
        have p16 : (0 : Int) ≤ (j16 : Int) := by omega
        have q16 : (j16 : Int) < 64 := by omega
        have p0 : (0 : Int) ≤ (t : Int) := by omega
        have q0 : (t : Int) < 64 := by omega
        rw [HNX.out, hx2, hx7, hx15, hx16] at HS
        clear HNX hx2 hx7 hx15 hx16 hj2 hj7 hj15 hj16
        have r1 := w_add
        go_wp2
        go_region_held3 (fun w' => w'.cell? ⟨w.heap.size, j2, none⟩ = some (.int .u32 (un x2)) ∧ w'.cell? ⟨w.heap.size, j7, none⟩ = some (.int .u32 (un x7)) ∧ w'.cell? ⟨w.heap.size, j15, none⟩ = some (.int .u32 (un x15)) ∧ w'.cell? ⟨w.heap.size, j16, none⟩ = some (.int .u32 (un x16))) (first | exact ⟨k2.out _, k7.out _, k15.out _, k16.out _⟩ | go_keep)
          (first
            | (go_at_call 202; (with_reducible refine (high_any x2 _).mono ?_); rintro e w' ⟨rfl, rfl⟩)
            | (go_at_call 201; (with_reducible refine (low_any x15 _).mono ?_); rintro e w' ⟨rfl, rfl⟩))
        all_goals
          clear i2 i7 i15 i16
          go_wp2
          go_roundw
          case rel => exact ⟨t + 1, by omega, by go_num, by rw [← HS.out]; exact (HBK.out.set t _).drew, (hbel.setCell (p := ⟨w.heap.size, t, none⟩) (Nat.le_refl _) _).drew⟩
          case measure => simp [intOf]; omega
    · obtain rfl : t = 64 := by omega
      have hl64 := wCells_len l 64 (by omega)
      have HRES : Hid (wCells l 64 = (wTo l 64).map u32c) := wCells_all l
      have hself : ∀ cs, cs = (wCells l 64).toArray → wr.setRow w.heap.size cs = wr := fun cs e => by rw [e]; exact setRow_self wr w.heap.size _ _ (0, 0) HBK.out
      have HONE : Hid ((wCells l 64).toArray.all (·.oneCell') = true) := by rw [HRES.out]; exact all_one_words _
      have HSF := Lib.hid hself; clear hself hblk
      have HLL := Lib.hid hl64; clear hl64
      go_wp2_with (first
        | (refine wpList_load_row rfl 187 (.tmp 2) rfl w.heap.size rfl 187 (wCells l 64).toArray (0, 0) _ HBK.out Tryz.underlying187 rfl (by rw [List.size_toArray, HLL.out]; kernel_rfl) ?_)
        | (refine wpList_store_row rfl 187 (.tmp 2) (.tmp 58) rfl w.heap.size (wCells l 64).toArray rfl rfl 187 (wCells l 64).toArray HBK.out (by rw [List.size_toArray, HLL.out]; kernel_rfl) rfl HONE.out ?_; rw [HSF.out _ rfl]))
      exact bodyPost_ret (v := .agg (wCells l 64).toArray) (results_cell_row Tryz.results189 _ _ w.heap.size 187 _ (0, 0) _ rfl HBK.out Tryz.underlying187 rfl (by rw [List.size_toArray, HLL.out]; kernel_rfl)) rfl ⟨by rw [HRES.out], hbel⟩

set_option maxRecDepth 100000 in
set_option maxHeartbeats 2000000 in
theorem refWords_any (A : Option Addr) (c : Nat) (l : List UInt8) (w : World) (h : Bs w A 64 c l) :
    Calls Tryz.prog 197 #[.slice A 64 c] w fun e w' => e = .returned (.agg ((wTo l 64).map u32c).toArray) ∧ Below w.heap.size w w' := by
  obtain ⟨b, o, rfl, hcell⟩ := h.addr (by omega)
  have hcap := h.cap
  have hmax := h.max
  have HH := Lib.hid h; clear h hcell
  go_enter Tryz.func197, Tryz.ntmps197
  go_wp2
  go_loopw [4] (fun i wr => ∃ t : Nat, t ≤ 16 ∧ i = .int .i64 t ∧ Blk wr (w.heap.size + 1) 187 (wCells l t) ∧ Blk wr w.heap.size 187 (wCells l 0) ∧ Below w.heap.size w wr) (fun i _ => 16 - (intOf i).toNat)
  case atStart => exact ⟨0, by omega, rfl, heap_alloc2_new w _ _, heap_alloc2_old w _ _, ((Below.refl _ _).alloc (Nat.le_refl _) _).alloc (by simp) _⟩
  case round =>
    obtain ⟨t, ht, rfl, hblk, hres, hbel⟩ := hrel
    have HBK := Lib.hid hblk; have HRS := Lib.hid hres; clear hres
    by_cases hlt : t < 16
    · have hfree := hblk.free t
      have hat : wr.cell? ⟨w.heap.size + 1, t, none⟩ = some (.int .u32 0) := by rw [hblk.cell]; exact wCells_rest l t (by omega)
      clear hblk
      have hsl : ∀ w', (Instr.slice 28 (.slice (some ⟨b, o, none⟩) 64 c) (some (.int .i64 (4 * (t : Int)))) (some (.int .i64 (4 * (t : Int) + 4))) none).run Tryz.prog w' = .ok (.slice (some ⟨b, o + 4 * t, none⟩) 4 (c - 4 * t)) w' := fun w' => by
        have := run_part b o c t (by omega) hlt w'
        rwa [show 4 * ((t : Int) + 1) = 4 * (t : Int) + 4 by omega] at this
      have HG := Lib.hid (refGet_yes (some ⟨b, o + 4 * t, none⟩) 4 (c - 4 * t) _ wr (Sl.part (HH.out.mono hbel) (lo := 4 * t) (m := 4) (by omega)) (by omega) (by omega))
      rw [word_get] at HG
      have HS := Lib.hid (wCells_set l t (wordAt l t) (by omega) (if_pos hlt))
      have U3 : Hid (IntKind.u32.wrap (un (wordAt l t)) = un (wordAt l t)) := by have u1 := un_nn (wordAt l t); have u2 := un_lt (wordAt l t); rw [IntKind.wrap_u32]; show _ = _; omega
      generalize wordAt l t = x at *
      go_wp2_with fail
      refine HG.out.mono ?_
      rintro e w' ⟨rfl, rfl⟩
      have u3 := U3.out
      go_wp2
      go_roundw
      case rel => exact ⟨t + 1, by omega, by go_num, by rw [← HS.out]; exact HBK.out.set t _, HRS.out.far (by simp) _, hbel.setCell (p := ⟨w.heap.size + 1, t, none⟩) (by simp) _⟩
      case measure => simp [intOf]; omega
    · obtain rfl : t = 16 := by omega
      clear hblk
      obtain ⟨wo, rfl⟩ : ∃ wo : World, wo = wr := ⟨_, rfl⟩
      go_wp2
      go_loopw [7] (fun i wr => ∃ t : Nat, 16 ≤ t ∧ t ≤ 64 ∧ i = .int .i64 t ∧ Blk wr (w.heap.size + 1) 187 (wCells l t) ∧ Blk wr w.heap.size 187 (wCells l 0) ∧ Below w.heap.size w wr) (fun i _ => 64 - (intOf i).toNat)
      case atStart => exact ⟨16, by omega, by omega, rfl, HBK.out, HRS.out, hbel⟩
      case round =>
        obtain ⟨t, h16, ht, rfl, hblk, hres, hbel⟩ := hrel
        have HBK := Lib.hid hblk; have HRS := Lib.hid hres; clear hres
        by_cases hlt : t < 64
        · have hfree := hblk.free t
          have hat : wr.cell? ⟨w.heap.size + 1, t, none⟩ = some (.int .u32 0) := by rw [hblk.cell]; exact wCells_rest l t hlt
          clear hblk
          have HS := Lib.hid (wCells_set l t (wNext (wTo l t) t) hlt (if_neg (by omega)))
          have HNX : Hid (wNext (wTo l t) t = sg1 ((wTo l t).getD (t - 2) 0) + (wTo l t).getD (t - 7) 0 + sg0 ((wTo l t).getD (t - 15) 0) + (wTo l t).getD (t - 16) 0) := rfl
          obtain ⟨j2, x2, hj2, hx2, a2⟩ : ∃ j x, j + 2 = t ∧ (wTo l t).getD (t - 2) 0 = x ∧ wr.cell? ⟨w.heap.size + 1, j, none⟩ = some (.int .u32 (un x)) := ⟨t - 2, _, by omega, rfl, by rw [HBK.out.cell]; exact wCells_at l t _ (by omega)⟩
          have k2 : Hid (∀ v (W : World), W.heap = (wr.setCell ⟨w.heap.size + 1, t, none⟩ v).heap → W.cell? ⟨w.heap.size + 1, j2, none⟩ = some (.int .u32 (un x2))) := fun v W e => (World.cell?_of_block (w := wr.setCell ⟨w.heap.size + 1, t, none⟩ v) (by rw [e])).trans (((HBK.out.set t v).cell j2).trans (by rw [List.getElem?_set_ne (by omega), ← HBK.out.cell]; exact a2))
          have i2 : IntKind.i64.wrap ((t : Int) - 2) = (j2 : Int) := by rw [IntWalk.i64_in _ (by omega)]; omega
          have p2 : (0 : Int) ≤ (j2 : Int) := by omega
          have q2 : (j2 : Int) < 64 := by omega
          obtain ⟨j7, x7, hj7, hx7, a7⟩ : ∃ j x, j + 7 = t ∧ (wTo l t).getD (t - 7) 0 = x ∧ wr.cell? ⟨w.heap.size + 1, j, none⟩ = some (.int .u32 (un x)) := ⟨t - 7, _, by omega, rfl, by rw [HBK.out.cell]; exact wCells_at l t _ (by omega)⟩
          have k7 : Hid (∀ v (W : World), W.heap = (wr.setCell ⟨w.heap.size + 1, t, none⟩ v).heap → W.cell? ⟨w.heap.size + 1, j7, none⟩ = some (.int .u32 (un x7))) := fun v W e => (World.cell?_of_block (w := wr.setCell ⟨w.heap.size + 1, t, none⟩ v) (by rw [e])).trans (((HBK.out.set t v).cell j7).trans (by rw [List.getElem?_set_ne (by omega), ← HBK.out.cell]; exact a7))
          have i7 : IntKind.i64.wrap ((t : Int) - 7) = (j7 : Int) := by rw [IntWalk.i64_in _ (by omega)]; omega
          have p7 : (0 : Int) ≤ (j7 : Int) := by omega
          have q7 : (j7 : Int) < 64 := by omega
          obtain ⟨j15, x15, hj15, hx15, a15⟩ : ∃ j x, j + 15 = t ∧ (wTo l t).getD (t - 15) 0 = x ∧ wr.cell? ⟨w.heap.size + 1, j, none⟩ = some (.int .u32 (un x)) := ⟨t - 15, _, by omega, rfl, by rw [HBK.out.cell]; exact wCells_at l t _ (by omega)⟩
          have k15 : Hid (∀ v (W : World), W.heap = (wr.setCell ⟨w.heap.size + 1, t, none⟩ v).heap → W.cell? ⟨w.heap.size + 1, j15, none⟩ = some (.int .u32 (un x15))) := fun v W e => (World.cell?_of_block (w := wr.setCell ⟨w.heap.size + 1, t, none⟩ v) (by rw [e])).trans (((HBK.out.set t v).cell j15).trans (by rw [List.getElem?_set_ne (by omega), ← HBK.out.cell]; exact a15))
          have i15 : IntKind.i64.wrap ((t : Int) - 15) = (j15 : Int) := by rw [IntWalk.i64_in _ (by omega)]; omega
          have p15 : (0 : Int) ≤ (j15 : Int) := by omega
          have q15 : (j15 : Int) < 64 := by omega
          obtain ⟨j16, x16, hj16, hx16, a16⟩ : ∃ j x, j + 16 = t ∧ (wTo l t).getD (t - 16) 0 = x ∧ wr.cell? ⟨w.heap.size + 1, j, none⟩ = some (.int .u32 (un x)) := ⟨t - 16, _, by omega, rfl, by rw [HBK.out.cell]; exact wCells_at l t _ (by omega)⟩
          have k16 : Hid (∀ v (W : World), W.heap = (wr.setCell ⟨w.heap.size + 1, t, none⟩ v).heap → W.cell? ⟨w.heap.size + 1, j16, none⟩ = some (.int .u32 (un x16))) := fun v W e => (World.cell?_of_block (w := wr.setCell ⟨w.heap.size + 1, t, none⟩ v) (by rw [e])).trans (((HBK.out.set t v).cell j16).trans (by rw [List.getElem?_set_ne (by omega), ← HBK.out.cell]; exact a16))
          have i16 : IntKind.i64.wrap ((t : Int) - 16) = (j16 : Int) := by rw [IntWalk.i64_in _ (by omega)]; omega
          have p16 : (0 : Int) ≤ (j16 : Int) := by omega
          have q16 : (j16 : Int) < 64 := by omega
          have p0 : (0 : Int) ≤ (t : Int) := by omega
          have q0 : (t : Int) < 64 := by omega
          rw [HNX.out, hx2, hx7, hx15, hx16] at HS
          clear HNX hx2 hx7 hx15 hx16 hj2 hj7 hj15 hj16
          have r1 := w_add
          have r2 := w_xor
          have s2 := shr10 x2
          have s15 := shr3 x15
          have n2 := un_nn x2
          have n15 := un_nn x15
          go_wp2
          go_quiet (fail)
          go_wp2
          go_region_held3 (fun w' => w'.cell? ⟨w.heap.size + 1, j2, none⟩ = some (.int .u32 (un x2)) ∧ w'.cell? ⟨w.heap.size + 1, j7, none⟩ = some (.int .u32 (un x7)) ∧ w'.cell? ⟨w.heap.size + 1, j15, none⟩ = some (.int .u32 (un x15)) ∧ w'.cell? ⟨w.heap.size + 1, j16, none⟩ = some (.int .u32 (un x16))) (first | exact ⟨k2.out _ _ rfl, k7.out _ _ rfl, k15.out _ _ rfl, k16.out _ _ rfl⟩ | go_keep)
            (first
              | (go_at_call 198; (with_reducible refine (refRight17_any x2 _).mono ?_); rintro e w' ⟨rfl, q17, rfl⟩)
              | (go_at_call 198; (with_reducible refine (refRight19_any x2 _).mono ?_); rintro e w' ⟨rfl, q19, rfl⟩)
              | (go_at_call 198; (with_reducible refine (refRight7_any x15 _).mono ?_); rintro e w' ⟨rfl, q7, rfl⟩)
              | (go_at_call 198; (with_reducible refine (refRight18_any x15 _).mono ?_); rintro e w' ⟨rfl, q18, rfl⟩))
          all_goals
            clear i2 i7 i15 i16
            go_wp2
            go_roundw
            case rel =>
              (repeat apply Exists.intro)
              exact ⟨⟨t + 1, by omega, by omega, by go_num, by rw [← HS.out]; exact HBK.out.set t _, HRS.out.far (p := ⟨w.heap.size + 1, t, none⟩) (by simp) _, (hbel.setCell (p := ⟨w.heap.size + 1, t, none⟩) (by simp) _).trans ⟨rfl, rfl, rfl, Nat.le_refl _, fun _ _ => rfl⟩⟩, rfl⟩
            case measure => simp [intOf]; omega
        · obtain rfl : t = 64 := by omega
          have HL0 := Lib.hid (wCells_len l 0 (by omega))
          have HLL := Lib.hid (wCells_len l 64 (by omega))
          have HRES : Hid (wCells l 64 = (wTo l 64).map u32c) := wCells_all l
          have HONE : Hid ((wCells l 64).toArray.all (·.oneCell') = true) := by rw [HRES.out]; exact all_one_words _
          have HNEW : Hid ((wr.setRow w.heap.size (wCells l 64).toArray).heap[w.heap.size]? = some (.cells (wCells l 64).toArray 187 (0, 0))) := setRow_heap wr w.heap.size _ _ _ _ HRS.out
          have HBW : Hid (Below w.heap.size w (wr.setRow w.heap.size (wCells l 64).toArray)) := below_row hbel (Nat.le_refl _) _
          clear hblk
          go_wp2_with (first
            | (refine wpList_load_row rfl 187 (.tmp 3) rfl (w.heap.size + 1) rfl 187 (wCells l 64).toArray (0, 0) _ HBK.out Tryz.underlying187 rfl (by rw [List.size_toArray, HLL.out]; kernel_rfl) ?_)
            | (refine wpList_store_row rfl 187 (.tmp 2) (.tmp 74) rfl w.heap.size (wCells l 64).toArray rfl rfl 187 (wCells l 0).toArray HRS.out (by rw [List.size_toArray, HLL.out]; kernel_rfl) (by rw [List.size_toArray, List.size_toArray, HLL.out, HL0.out]) HONE.out ?_))
          exact bodyPost_ret (v := .agg (wCells l 64).toArray) (results_cell_row Tryz.results197 _ _ w.heap.size 187 _ (0, 0) _ rfl HNEW.out Tryz.underlying187 rfl (by rw [List.size_toArray, HLL.out]; kernel_rfl)) rfl ⟨by rw [HRES.out], HBW.out⟩
end Go.Proofs.YtcfbbgbjlgonpaaGreatDoor
/- The rounds of a block: plain. No condition. -/
namespace Go.Proofs.YtcfbbgbjlgonpaaGreatDoor
set_option linter.unusedVariables false
def kTabI : List Int := [1116352408, 1899447441, 3049323471, 3921009573, 961987163, 1508970993, 2453635748, 2870763221, 3624381080, 310598401, 607225278, 1426881987, 1925078388, 2162078206, 2614888103, 3248222580, 3835390401, 4022224774, 264347078, 604807628, 770255983, 1249150122, 1555081692, 1996064986, 2554220882, 2821834349, 2952996808, 3210313671, 3336571891, 3584528711, 113926993, 338241895, 666307205, 773529912, 1294757372, 1396182291, 1695183700, 1986661051, 2177026350, 2456956037, 2730485921, 2820302411, 3259730800, 3345764771, 3516065817, 3600352804, 4094571909, 275423344, 430227734, 506948616, 659060556, 883997877, 958139571, 1322822218, 1537002063, 1747873779, 1955562222, 2024104815, 2227730452, 2361852424, 2428436474, 2756734187, 3204031479, 3329325298]
def kT (t : Nat) : UInt32 := UInt32.ofNat (kTabI.getD t 0).toNat
theorem kT_run : ((List.range 64).all fun t => decide (un (kT t) = kTabI.getD t 0)) = true := by decide +kernel
theorem kT_at (t : Nat) (h : t < 64) : kTabI.getD t 0 = un (kT t) := by
  have := List.all_eq_true.1 kT_run t (List.mem_range.2 h)
  exact (of_decide_eq_true this).symm
def kAll : List UInt32 := (List.range 64).map kT
structure H8 where
  a : UInt32
  b : UInt32
  c : UInt32
  d : UInt32
  e : UInt32
  f : UInt32
  g : UInt32
  h : UInt32
def H8.ws (s : H8) : List UInt32 := [s.a, s.b, s.c, s.d, s.e, s.f, s.g, s.h]
def H8.cells (s : H8) : List Value := s.ws.map u32c
def chW (e f g : UInt32) : UInt32 := g ^^^ (e &&& (f ^^^ g))
def majW (a b c : UInt32) : UInt32 := (a &&& b) ||| (c &&& (a ||| b))
def xW (k w : UInt32) (s : H8) : UInt32 := s.h + bs1 s.e + chW s.e s.f s.g + k + w
def yW (s : H8) : UInt32 := bs0 s.a + majW s.a s.b s.c
def rnd (k w : UInt32) (s : H8) : H8 := ⟨xW k w s + yW s, s.a, s.b, s.c, s.d + xW k w s, s.e, s.f, s.g⟩
def rTo (ws : List UInt32) (s : H8) : Nat → H8
  | 0 => s
  | t + 1 => rnd (kT t) (ws.getD t 0) (rTo ws s t)
def H8.add (s r : H8) : H8 := ⟨s.a + r.a, s.b + r.b, s.c + r.c, s.d + r.d, s.e + r.e, s.f + r.f, s.g + r.g, s.h + r.h⟩
/-- A block. -/
def blockH (s : H8) (b : List UInt8) : H8 := (rTo (wTo b 64) s 64).add s
theorem bit_eq {x y : UInt32} (h : ∀ i, x.toNat.testBit i = y.toNat.testBit i) : x = y := UInt32.toNat_inj.1 (Nat.eq_of_testBit_eq h)
/-- Choice and majority, as the document writes them. -/
theorem ch_eq (e f g : UInt32) : (e &&& f) ^^^ ((e ^^^ 4294967295) &&& g) = chW e f g := by
  unfold chW
  apply bit_eq
  intro i
  simp only [UInt32.toNat_xor, UInt32.toNat_and, Nat.testBit_xor, Nat.testBit_and]
  have hm : (4294967295 : UInt32).toNat = 2 ^ 32 - 1 := rfl
  rw [hm, Nat.testBit_two_pow_sub_one]
  by_cases hi : i < 32
  · simp only [hi, decide_true]
    cases e.toNat.testBit i <;> cases f.toNat.testBit i <;> cases g.toNat.testBit i <;> rfl
  · have hz : ∀ x : UInt32, x.toNat.testBit i = false := fun x => Nat.testBit_lt_two_pow (Nat.lt_of_lt_of_le (u32_lt x) (Nat.pow_le_pow_right (n := 2) (by decide) (show 32 ≤ i by omega)))
    simp [hz]
theorem maj_eq (a b c : UInt32) : ((a &&& b) ^^^ (a &&& c)) ^^^ (b &&& c) = majW a b c := by
  unfold majW
  apply bit_eq
  intro i
  simp only [UInt32.toNat_xor, UInt32.toNat_and, UInt32.toNat_or, Nat.testBit_xor, Nat.testBit_and, Nat.testBit_or]
  cases a.toNat.testBit i <;> cases b.toNat.testBit i <;> cases c.toNat.testBit i <;> rfl
/-! ### what stood there is added, one word after the other -/
def mixL (R T : List UInt32) (k : Nat) : List Value := (T.take k ++ R.drop k).map u32c
theorem mix_zero (R T : List UInt32) : mixL R T 0 = R.map u32c := by simp [mixL]
theorem mix_all (R T : List UInt32) (hR : R.length = 8) (hT : T.length = 8) : mixL R T 8 = T.map u32c := by
  unfold mixL
  rw [List.take_of_length_le (by omega), List.drop_eq_nil_of_le (by omega), List.append_nil]
theorem mix_at (R T : List UInt32) (hR : R.length = 8) (hT : T.length = 8) (k : Nat) (hk : k < 8) : (mixL R T k)[k]? = some (.int .u32 (un (R.getD k 0))) := by
  unfold mixL
  rw [List.getElem?_map, List.getElem?_append_right (by simp; omega), List.length_take, hT, Nat.min_eq_left (by omega), Nat.sub_self, List.getElem?_drop, Nat.add_zero, List.getElem?_eq_getElem (by omega), List.getD_eq_getElem?_getD, List.getElem?_eq_getElem (by omega)]
  rfl
theorem mix_set (R T : List UInt32) (hR : R.length = 8) (hT : T.length = 8) (k : Nat) (hk : k < 8) : (mixL R T k).set k (.int .u32 (un (T.getD k 0))) = mixL R T (k + 1) := by
  unfold mixL
  have hl : (T.take k).length = k := by simp; omega
  rw [List.take_succ_eq_append_getElem (by omega), List.drop_eq_getElem_cons (show k < R.length by omega)]
  rw [List.map_append, List.set_append_right _ _ (by simp; omega), List.length_map, hl, Nat.sub_self, List.map_cons, List.set_cons_zero, List.map_append, List.map_append, List.append_assoc]
  rw [List.getD_eq_getElem?_getD, List.getElem?_eq_getElem (by omega)]
  rfl
theorem add_at (s r : H8) (k : Nat) (hk : k < 8) : (s.add r).ws.getD k 0 = s.ws.getD k 0 + r.ws.getD k 0 := by
  obtain rfl | rfl | rfl | rfl | rfl | rfl | rfl | rfl : k = 0 ∨ k = 1 ∨ k = 2 ∨ k = 3 ∨ k = 4 ∨ k = 5 ∨ k = 6 ∨ k = 7 := by omega
  all_goals rfl
theorem ws_cell (s : H8) (k : Nat) (hk : k < 8) : s.cells[k]? = some (.int .u32 (un (s.ws.getD k 0))) := by
  obtain rfl | rfl | rfl | rfl | rfl | rfl | rfl | rfl : k = 0 ∨ k = 1 ∨ k = 2 ∨ k = 3 ∨ k = 4 ∨ k = 5 ∨ k = 6 ∨ k = 7 := by omega
  all_goals rfl
theorem w_not (x : UInt32) : bits .xor .u32 (if IntKind.u32.signed = true then -1 else IntKind.u32.max) (un x) = un (x ^^^ 4294967295) := by
  have h : (if IntKind.u32.signed = true then (-1 : Int) else IntKind.u32.max) = un 4294967295 := by decide
  rw [h, w_xor, UInt32.xor_comm]
/-- A round, as the document writes it. -/
def rndR (kt wt r0 r1 r2 r3 r4 r5 r6 r7 : UInt32) : List Value := [.int .u32 (un ((r7 + (rotR r4 6 ^^^ rotR r4 11 ^^^ rotR r4 25) + (r4 &&& r5 ^^^ (r4 ^^^ 4294967295) &&& r6) + kt + wt) + ((rotR r0 2 ^^^ rotR r0 13 ^^^ rotR r0 22) + (r0 &&& r1 ^^^ r0 &&& r2 ^^^ r1 &&& r2)))), .int .u32 (un r0), .int .u32 (un r1), .int .u32 (un r2), .int .u32 (un (r3 + (r7 + (rotR r4 6 ^^^ rotR r4 11 ^^^ rotR r4 25) + (r4 &&& r5 ^^^ (r4 ^^^ 4294967295) &&& r6) + kt + wt))), .int .u32 (un r4), .int .u32 (un r5), .int .u32 (un r6)]
theorem rnd_ref (kt wt r0 r1 r2 r3 r4 r5 r6 r7 : UInt32) : rndR kt wt r0 r1 r2 r3 r4 r5 r6 r7 = (rnd kt wt ⟨r0, r1, r2, r3, r4, r5, r6, r7⟩).cells := by
  unfold rndR rnd xW yW
  rw [ch_eq, maj_eq]
  rfl
end Go.Proofs.YtcfbbgbjlgonpaaGreatDoor
namespace Go.Proofs.YtcfbbgbjlgonpaaGreatDoor
open Go.RowKit
set_option linter.unusedVariables false

theorem step_copy_row {P : Program} {ops : Array Oper} {o : Oper} {a : Act} {w : World} {K : Act → World → Prop} {Q : Exit → Act → World → Prop} {E : Prop} (hgd : o.guard = none) (d s : Operand) (dT sT : TypeId)
    (ho : o.op = .call { callee := .builtin .copy, args := #[d, s], argTypes := #[dT, sT] }) (elem : TypeId) (hu : P.underlying dT = some (.slice elem)) (hsz : (P.info? elem).map (·.size) = some 1)
    (g off dLen dCap : Nat) (ad : Addr) (sLen sCap : Nat) (hd : a.eval d = .slice (some ⟨g, off, none⟩) dLen dCap) (hs : a.eval s = .slice (some ad) sLen sCap)
    (cur : Array Value) (t : TypeId) (hg : w.heap[g]? = some (.cells cur t (0, 0))) (cs : List Value) (hn : cs.length = Nat.min sLen dLen)
    (hsrc : ∀ j v, cs[j]? = some v → w.cell? (ad.add j) = some v) (hfit : off + cs.length ≤ cur.size) (h1 : ∀ v ∈ cs, v.oneCell' = true)
    (new : Array Value) (hnew : (cur.toList.take off ++ cs ++ cur.toList.drop (off + cs.length)).toArray = new)
    (h : K (a.put o.dst (goInt cs.length)) (w.setRow g new)) :
    if Region.wanted o (yielded ops a.tmps) = true then Oper.wp P o a w K Q else E := by
  have hw : Region.wanted o (yielded ops a.tmps) = true := by simp [Region.wanted, hgd]
  rw [if_pos hw]
  have hrun := run_copy_row (P := P) w dT sT o.type elem g off dLen dCap ad sLen sCap cur t cs hu hsz hg hn hsrc hfit h1
  rw [hnew] at hrun
  unfold Oper.wp
  simp [execOp, ho, resolve, invoke, builtin, hd, hs, hrun, Result.andThen]
  exact h

/-- The numbers of the rounds, as the program's own table has them. -/
def ShaK (w : World) : Prop := Lib.TabIs Tryz.prog w "oubliette/sha.k" .u32 kTabI
theorem ShaK.cell {w : World} (h : ShaK w) (t : Nat) (ht : t < 64) : w.cell? ⟨1, t, none⟩ = some (.int .u32 (un (kT t))) := by
  rw [← kT_at t ht]
  exact Lib.TabIs.cell h (by kernel_rfl) t (by exact ht)
theorem ShaK.lt {w : World} (h : ShaK w) : 1 < w.heap.size := World.block_lt_of_cell? w _ (h.cell 0 (by decide))
theorem ShaK.mono {w w' : World} (h : ShaK w) (hb : Below w.heap.size w w') : ShaK w' := by
  have hlt := h.lt
  unfold ShaK Lib.TabIs World.var? at *
  rw [show Tryz.prog.globalNamed "oubliette/sha.k" = some 1 by kernel_rfl] at h ⊢
  simp only [Option.bind_some] at h ⊢
  rw [hb.block _ hlt]
  exact h
theorem quiet_same {P : Program} {f : FuncId} {args : Array Value} {w : World} {n : Nat} {v : Value}
    (h : Calls P f args (w.drewN n) fun e w' => e = .returned v ∧ w.drewN n = w') : Calls P f args (w.drewN n) fun e w'' => e = .returned v ∧ ∃ m, w'' = w.drewN m :=
  h.mono fun _ _ ⟨he, hm⟩ => ⟨he, n, hm.symm⟩
theorem quiet_rd {P : Program} {f : FuncId} {args : Array Value} {w : World} {n : Nat} {v : Value}
    (h : Calls P f args (w.drewN n) fun e w' => e = .returned v ∧ ∃ m, w' = (w.drewN n).drewN m) : Calls P f args (w.drewN n) fun e w'' => e = .returned v ∧ ∃ m, w'' = w.drewN m :=
  h.mono fun _ _ ⟨he, m, hm⟩ => ⟨he, n + m, by rw [hm, World.drewN_drewN]⟩
theorem run_index64 (ws : List UInt32) (t : Nat) (hl : ws.length = 64) (ht : t < 64) (w : World) : (Instr.index 187 (.agg (ws.map u32c).toArray) (.int .i64 (t : Int))).run Tryz.prog w = .ok (.int .u32 (un (ws.getD t 0))) w := by
  have hs : (sizeOf 119).run Tryz.prog w = .ok 1 w := by kernel_rfl
  have ha : ∀ x : Value, (x = .int .u32 (un (ws.getD t 0))) → (ws.map u32c).toArray[t]? = some x := fun x e => by
    rw [e]
    simp only [List.getElem?_toArray, List.getElem?_map]
    rw [List.getElem?_eq_getElem (by omega), List.getD_eq_getElem?_getD, List.getElem?_eq_getElem (by omega)]
    rfl
  have hp : (part 119 (ws.map u32c).toArray t).run Tryz.prog w = .ok (.int .u32 (un (ws.getD t 0))) w := by
    have hg : (ws.map u32c).toArray.getD t undef = .int .u32 (un (ws.getD t 0)) := by
      rw [Array.getD_eq_getD_getElem?, ha _ rfl]; rfl
    have hag : (isAgg 119).run Tryz.prog w = .ok false w := by kernel_rfl
    simp only [part, Sem.run_bind, hag, Result.andThen_ok]
    rw [ha _ rfl]
    rfl
  simp only [Instr.index, asIntOf, Sem.run_bind, Sem.run_pure, Result.andThen_ok, run_underlying Tryz.underlying187]
  rw [if_pos ⟨by omega, by exact_mod_cast ht⟩]
  simp only [Sem.run_bind, hs, Result.andThen_ok, Int.toNat_natCast, Nat.mul_one]
  exact hp

set_option maxRecDepth 100000 in
set_option maxHeartbeats 1000000 in
theorem block_core (s0 s1 s2 s3 s4 s5 s6 s7 : UInt32) (A : Option Addr) (c : Nat) (l : List UInt8) (w : World) (h : Bs w A 64 c l) (hK : ShaK w) :
    Calls Tryz.prog 171 #[.agg #[.int .u32 (un s0), .int .u32 (un s1), .int .u32 (un s2), .int .u32 (un s3), .int .u32 (un s4), .int .u32 (un s5), .int .u32 (un s6), .int .u32 (un s7)], .slice A 64 c] w fun e w' => e = .returned (.agg (blockH ⟨s0, s1, s2, s3, s4, s5, s6, s7⟩ l).cells.toArray) ∧ Below w.heap.size w w' := by
  have hcap := h.cap
  have hmax := h.max
  have HH := Lib.hid h; have HKT := Lib.hid hK; clear h hK
  obtain ⟨wl, hwl⟩ : ∃ wl, wl = ((w.alloc (.cells #[.int .u32 (un s0), .int .u32 (un s1), .int .u32 (un s2), .int .u32 (un s3), .int .u32 (un s4), .int .u32 (un s5), .int .u32 (un s6), .int .u32 (un s7)] 174)).alloc (.cells #[.int .u32 0, .int .u32 0, .int .u32 0, .int .u32 0, .int .u32 0, .int .u32 0, .int .u32 0, .int .u32 0] 174)).alloc (.cells #[.int .u32 (un s0), .int .u32 (un s1), .int .u32 (un s2), .int .u32 (un s3), .int .u32 (un s4), .int .u32 (un s5), .int .u32 (un s6), .int .u32 (un s7)] 174) := ⟨_, rfl⟩
  have HWL := Lib.hid hwl; clear hwl
  go_enter Tryz.func171, Tryz.ntmps171
  go_wp2_with fail
  rw [← HWL.out]
  have hz0 : wl.heap.size = w.heap.size + 1 + 1 + 1 := by rw [HWL.out]; simp
  have B0 : Hid (Blk wl w.heap.size 174 (H8.cells ⟨s0, s1, s2, s3, s4, s5, s6, s7⟩)) := by
    rw [HWL.out]; exact ((Blk.new w 174 _).alloc _).alloc _
  have B1 : Hid (Blk wl (w.heap.size + 1) 174 (reps 8 (.int .u32 0))) := by
    rw [HWL.out]; exact Blk.alloc (cs := reps 8 (.int .u32 0)) (heap_alloc2_new w _ _) _
  have B2 : Hid (Blk wl (w.heap.size + 1 + 1) 174 (H8.cells ⟨s0, s1, s2, s3, s4, s5, s6, s7⟩)) := by
    rw [HWL.out]
    have := heap_alloc2_new (w.alloc (.cells #[.int .u32 (un s0), .int .u32 (un s1), .int .u32 (un s2), .int .u32 (un s3), .int .u32 (un s4), .int .u32 (un s5), .int .u32 (un s6), .int .u32 (un s7)] 174)) (.cells #[.int .u32 0, .int .u32 0, .int .u32 0, .int .u32 0, .int .u32 0, .int .u32 0, .int .u32 0, .int .u32 0] 174) (.cells #[.int .u32 (un s0), .int .u32 (un s1), .int .u32 (un s2), .int .u32 (un s3), .int .u32 (un s4), .int .u32 (un s5), .int .u32 (un s6), .int .u32 (un s7)] 174)
    rw [show (w.alloc (.cells #[.int .u32 (un s0), .int .u32 (un s1), .int .u32 (un s2), .int .u32 (un s3), .int .u32 (un s4), .int .u32 (un s5), .int .u32 (un s6), .int .u32 (un s7)] 174)).heap.size = w.heap.size + 1 by simp] at this
    exact this
  have hbl : Below w.heap.size w wl := by rw [HWL.out]; exact (((Below.refl _ _).alloc (Nat.le_refl _) _).alloc (by simp) _).alloc (by simp; omega) _
  refine (words_any A c l wl (HH.out.mono hbl)).mono ?_
  rintro e w1 ⟨rfl, b1⟩
  have HB1 := Lib.hid (below_both hbl b1)
  have C0 := Lib.hid (B0.out.mono b1); have C1 := Lib.hid (B1.out.mono b1); have C2 := Lib.hid (B2.out.mono b1)
  have HZ0 := Lib.hid hz0
  clear hbl b1 hz0 B0 B1 B2
  have hwl64 := wTo_len l 64
  have HIX := Lib.hid (fun t ht w' => run_index64 (wTo l 64) t hwl64 ht w')
  have HBH : Hid (blockH ⟨s0, s1, s2, s3, s4, s5, s6, s7⟩ l = (rTo (wTo l 64) ⟨s0, s1, s2, s3, s4, s5, s6, s7⟩ 64).add ⟨s0, s1, s2, s3, s4, s5, s6, s7⟩) := rfl
  clear hwl64
  generalize hWS : ((wTo l 64).map u32c).toArray = WS at *
  clear hWS
  generalize wTo l 64 = ws at *
  go_wp2
  go_loopw [20] (fun i wr => ∃ t : Nat, t ≤ 64 ∧ i = .int .i64 t ∧ Blk wr w.heap.size 174 (rTo ws ⟨s0, s1, s2, s3, s4, s5, s6, s7⟩ t).cells ∧ Blk wr (w.heap.size + 1) 174 (reps 8 (.int .u32 0)) ∧ Blk wr (w.heap.size + 1 + 1) 174 (H8.cells ⟨s0, s1, s2, s3, s4, s5, s6, s7⟩) ∧ Below w.heap.size w wr) (fun i _ => 64 - (intOf i).toNat)
  case atStart => exact ⟨0, by omega, rfl, C0.out, C1.out, C2.out, HB1.out⟩
  case round =>
    obtain ⟨t, ht, rfl, hblk, hb1, hb2, hbel⟩ := hrel
    have D1 := Lib.hid hb1; have D2 := Lib.hid hb2; clear hb1 hb2
    by_cases hlt : t < 64
    · have hix := HIX.out t hlt
      have kc := (HKT.out.mono hbel).cell t hlt
      have HR : Hid (rTo ws ⟨s0, s1, s2, s3, s4, s5, s6, s7⟩ (t + 1) = rnd (kT t) (ws.getD t 0) (rTo ws ⟨s0, s1, s2, s3, s4, s5, s6, s7⟩ t)) := rfl
      generalize rTo ws ⟨s0, s1, s2, s3, s4, s5, s6, s7⟩ t = r at *
      generalize kT t = kt at *
      generalize ws.getD t 0 = wt at *
      obtain ⟨r0, r1, r2, r3, r4, r5, r6, r7⟩ := r
      have D0 := Lib.hid hblk
      have c0 : wr.cell? ⟨w.heap.size, 0, none⟩ = some (.int .u32 (un r0)) := by rw [hblk.cell]; rfl
      have c1 : wr.cell? ⟨w.heap.size, 1, none⟩ = some (.int .u32 (un r1)) := by rw [hblk.cell]; rfl
      have c2 : wr.cell? ⟨w.heap.size, 2, none⟩ = some (.int .u32 (un r2)) := by rw [hblk.cell]; rfl
      have c3 : wr.cell? ⟨w.heap.size, 3, none⟩ = some (.int .u32 (un r3)) := by rw [hblk.cell]; rfl
      have c4 : wr.cell? ⟨w.heap.size, 4, none⟩ = some (.int .u32 (un r4)) := by rw [hblk.cell]; rfl
      have c5 : wr.cell? ⟨w.heap.size, 5, none⟩ = some (.int .u32 (un r5)) := by rw [hblk.cell]; rfl
      have c6 : wr.cell? ⟨w.heap.size, 6, none⟩ = some (.int .u32 (un r6)) := by rw [hblk.cell]; rfl
      have c7 : wr.cell? ⟨w.heap.size, 7, none⟩ = some (.int .u32 (un r7)) := by rw [hblk.cell]; rfl
      have p0 : (0 : Int) ≤ (t : Int) := by omega
      have q0 : (t : Int) < 64 := by omega
      have CE : Hid (∀ (W : World), W.heap = wr.heap → ∀ (b i : Nat) (v : Value), wr.cell? ⟨b, i, none⟩ = some v → W.cell? ⟨b, i, none⟩ = some v) := fun W e b i v h => (World.cell?_of_block (by rw [e])).trans h
      clear hblk
      have e1 := w_add
      have e2 := w_xor
      have e3 := w_and
      have e4 := w_or
      go_wp2
      go_quiet (fail)
      obtain ⟨wA, hre⟩ : ∃ W0, W0 = (wr).drewN nq := ⟨_, rfl⟩
      rw [← hre]
      have HwA : Hid (wA.heap = wr.heap) := by rw [hre]; exact rfl
      have HBwA : Hid (Below w.heap.size w wA) := by rw [hre]; exact belowN hbel _
      clear hre
      have kcwA := CE.out wA HwA.out _ _ _ kc
      have c0wA := CE.out wA HwA.out _ _ _ c0
      have c1wA := CE.out wA HwA.out _ _ _ c1
      have c2wA := CE.out wA HwA.out _ _ _ c2
      have c3wA := CE.out wA HwA.out _ _ _ c3
      have c4wA := CE.out wA HwA.out _ _ _ c4
      have c5wA := CE.out wA HwA.out _ _ _ c5
      have c6wA := CE.out wA HwA.out _ _ _ c6
      have c7wA := CE.out wA HwA.out _ _ _ c7
      go_wp2
      go_quiet ((first | (go_at_call 190; with_reducible exact quiet_same (right6_any r4 _)) | (go_at_call 190; with_reducible exact quiet_same (right11_any r4 _)) | (go_at_call 190; with_reducible exact quiet_same (right25_any r4 _))))
      clear kcwA c0wA c1wA c2wA c3wA c4wA c5wA c6wA c7wA
      obtain ⟨wB, hre⟩ : ∃ W0, W0 = (wA).drewN nq := ⟨_, rfl⟩
      rw [← hre]
      have HwB : Hid (wB.heap = wr.heap) := by rw [hre]; exact HwA.out
      have HBwB : Hid (Below w.heap.size w wB) := by rw [hre]; exact belowN HBwA.out _
      clear hre
      have kcwB := CE.out wB HwB.out _ _ _ kc
      have c0wB := CE.out wB HwB.out _ _ _ c0
      have c1wB := CE.out wB HwB.out _ _ _ c1
      have c2wB := CE.out wB HwB.out _ _ _ c2
      have c3wB := CE.out wB HwB.out _ _ _ c3
      have c4wB := CE.out wB HwB.out _ _ _ c4
      have c5wB := CE.out wB HwB.out _ _ _ c5
      have c6wB := CE.out wB HwB.out _ _ _ c6
      have c7wB := CE.out wB HwB.out _ _ _ c7
      go_wp2
      go_quiet ((first | (go_at_call 190; with_reducible exact quiet_same (right2_any r0 _)) | (go_at_call 190; with_reducible exact quiet_same (right13_any r0 _)) | (go_at_call 190; with_reducible exact quiet_same (right22_any r0 _))))
      clear kcwB c0wB c1wB c2wB c3wB c4wB c5wB c6wB c7wB
      obtain ⟨wC, hre⟩ : ∃ W0, W0 = (wB).drewN nq := ⟨_, rfl⟩
      rw [← hre]
      have HwC : Hid (wC.heap = wr.heap) := by rw [hre]; exact HwB.out
      have HBwC : Hid (Below w.heap.size w wC) := by rw [hre]; exact belowN HBwB.out _
      clear hre
      have kcwC := CE.out wC HwC.out _ _ _ kc
      have c0wC := CE.out wC HwC.out _ _ _ c0
      have c1wC := CE.out wC HwC.out _ _ _ c1
      have c2wC := CE.out wC HwC.out _ _ _ c2
      have c3wC := CE.out wC HwC.out _ _ _ c3
      have c4wC := CE.out wC HwC.out _ _ _ c4
      have c5wC := CE.out wC HwC.out _ _ _ c5
      have c6wC := CE.out wC HwC.out _ _ _ c6
      have c7wC := CE.out wC HwC.out _ _ _ c7
      clear kc c0 c1 c2 c3 c4 c5 c6 c7 kcwC hix
      have hbkC : Hid (wC.heap[w.heap.size]? = some (.cells #[.int .u32 (un r0), .int .u32 (un r1), .int .u32 (un r2), .int .u32 (un r3), .int .u32 (un r4), .int .u32 (un r5), .int .u32 (un r6), .int .u32 (un r7)] 174 (0, 0))) := by rw [HwC.out]; exact D0.out
      have HSRC : Hid (∀ W : World, W.heap = wC.heap → ∀ j v, [Value.int .u32 (un r0), .int .u32 (un r1), .int .u32 (un r2), .int .u32 (un r3), .int .u32 (un r4), .int .u32 (un r5), .int .u32 (un r6)][j]? = some v → W.cell? ((⟨w.heap.size, 0, none⟩ : Addr).add j) = some v) := by
        intro W hW j v hv
        have hj : j < 7 := (List.getElem?_eq_some_iff.1 hv).1
        rw [add_flat, Nat.zero_add]
        have hb : Blk W w.heap.size 174 (H8.cells ⟨r0, r1, r2, r3, r4, r5, r6, r7⟩) := by unfold Blk; rw [hW]; exact hbkC.out
        rw [hb.cell]
        rw [← hv]
        show ([Value.int .u32 (un r0), .int .u32 (un r1), .int .u32 (un r2), .int .u32 (un r3), .int .u32 (un r4), .int .u32 (un r5), .int .u32 (un r6)] ++ [Value.int .u32 (un r7)])[j]? = _
        rw [List.getElem?_append_left hj]
      have HON : Hid (∀ v ∈ [Value.int .u32 (un r0), .int .u32 (un r1), .int .u32 (un r2), .int .u32 (un r3), .int .u32 (un r4), .int .u32 (un r5), .int .u32 (un r6)], v.oneCell' = true) := by
        intro v hv
        simp only [List.mem_cons, List.mem_nil_iff, or_false] at hv
        rcases hv with rfl | rfl | rfl | rfl | rfl | rfl | rfl <;> rfl
      go_wp2
      go_region_law (refine step_copy_row rfl (.tmp 77) (.tmp 78) 200 200 rfl 119 Tryz.underlying200 (by kernel_rfl) w.heap.size 1 7 7 ⟨w.heap.size, 0, none⟩ 7 8 rfl rfl #[.int .u32 (un r0), .int .u32 (un r1), .int .u32 (un r2), .int .u32 (un r3), .int .u32 (un r4), .int .u32 (un r5), .int .u32 (un r6), .int .u32 (un r7)] 174 (by exact hbkC.out) [.int .u32 (un r0), .int .u32 (un r1), .int .u32 (un r2), .int .u32 (un r3), .int .u32 (un r4), .int .u32 (un r5), .int .u32 (un r6)] rfl (by exact HSRC.out _ rfl) (Nat.le_refl _) HON.out #[.int .u32 (un r0), .int .u32 (un r0), .int .u32 (un r1), .int .u32 (un r2), .int .u32 (un r3), .int .u32 (un r4), .int .u32 (un r5), .int .u32 (un r6)] rfl ?_)
      obtain ⟨wD, hwD⟩ : ∃ wD, wD = wC.drew.setRow w.heap.size #[.int .u32 (un r0), .int .u32 (un r0), .int .u32 (un r1), .int .u32 (un r2), .int .u32 (un r3), .int .u32 (un r4), .int .u32 (un r5), .int .u32 (un r6)] := ⟨_, rfl⟩
      rw [← hwD]
      have hbD : Blk wD w.heap.size 174 [.int .u32 (un r0), .int .u32 (un r0), .int .u32 (un r1), .int .u32 (un r2), .int .u32 (un r3), .int .u32 (un r4), .int .u32 (un r5), .int .u32 (un r6)] := by
        rw [hwD]; exact setRow_heap wC.drew w.heap.size _ _ _ _ hbkC.out
      have hoth : ∀ b, b ≠ w.heap.size → wD.heap[b]? = wr.heap[b]? := by
        intro b hb
        rw [hwD]
        exact (setRow_other wC.drew w.heap.size b _ hb).trans (by show wC.heap[b]? = _; rw [HwC.out])
      have E1 : Hid (Blk wD (w.heap.size + 1) 174 (reps 8 (.int .u32 0))) := (hoth _ (by omega)).trans D1.out
      have E2 : Hid (Blk wD (w.heap.size + 1 + 1) 174 (H8.cells ⟨s0, s1, s2, s3, s4, s5, s6, s7⟩)) := (hoth _ (by omega)).trans D2.out
      have HBD : Hid (Below w.heap.size w wD) := by rw [hwD]; exact below_row HBwC.out.drew (Nat.le_refl _) _
      have f0 := hbD.free 0
      have f4 := hbD.free 4
      have g0 : wD.cell? ⟨w.heap.size, 0, none⟩ = some (.int .u32 (un r0)) := by rw [hbD.cell]; rfl
      have g4 : wD.cell? ⟨w.heap.size, 4, none⟩ = some (.int .u32 (un r3)) := by rw [hbD.cell]; rfl
      have E0 := Lib.hid hbD
      have e5 := w_add'
      clear hbD hoth hwD c0wC c1wC c2wC c3wC c4wC c5wC c6wC c7wC e1 e2 e3 e4
      go_wp2
      clear e5
      go_roundw
      case rel =>
        first
          | exact ⟨t + 1, by omega, by go_num, by rw [HR.out]; exact (E0.out.set 0 _).set 4 _, (E1.out.far (p := ⟨w.heap.size, 0, none⟩) (by simp) _).far (p := ⟨w.heap.size, 4, none⟩) (by simp) _, (E2.out.far (p := ⟨w.heap.size, 0, none⟩) (by simp; omega) _).far (p := ⟨w.heap.size, 4, none⟩) (by simp; omega) _, (HBD.out.setCell (p := ⟨w.heap.size, 0, none⟩) (Nat.le_refl _) _).setCell (p := ⟨w.heap.size, 4, none⟩) (Nat.le_refl _) _⟩
          | ((repeat apply Exists.intro); exact ⟨⟨t + 1, by omega, by go_num, by rw [HR.out]; exact (E0.out.set 0 _).set 4 _, (E1.out.far (p := ⟨w.heap.size, 0, none⟩) (by simp) _).far (p := ⟨w.heap.size, 4, none⟩) (by simp) _, (E2.out.far (p := ⟨w.heap.size, 0, none⟩) (by simp; omega) _).far (p := ⟨w.heap.size, 4, none⟩) (by simp; omega) _, (HBD.out.setCell (p := ⟨w.heap.size, 0, none⟩) (Nat.le_refl _) _).setCell (p := ⟨w.heap.size, 4, none⟩) (Nat.le_refl _) _⟩, rfl⟩)
      case measure => simp [intOf]; omega
    · obtain rfl : t = 64 := by omega
      have HM0 : Hid (Blk wr w.heap.size 174 (mixL (rTo ws ⟨s0, s1, s2, s3, s4, s5, s6, s7⟩ 64).ws ((rTo ws ⟨s0, s1, s2, s3, s4, s5, s6, s7⟩ 64).add ⟨s0, s1, s2, s3, s4, s5, s6, s7⟩).ws 0)) := by rw [mix_zero]; exact hblk
      have HLR : Hid ((rTo ws ⟨s0, s1, s2, s3, s4, s5, s6, s7⟩ 64).ws.length = 8) := rfl
      have HLT : Hid (((rTo ws ⟨s0, s1, s2, s3, s4, s5, s6, s7⟩ 64).add ⟨s0, s1, s2, s3, s4, s5, s6, s7⟩).ws.length = 8) := rfl
      have HAD := Lib.hid (add_at (rTo ws ⟨s0, s1, s2, s3, s4, s5, s6, s7⟩ 64) ⟨s0, s1, s2, s3, s4, s5, s6, s7⟩)
      have HTC : Hid (((rTo ws ⟨s0, s1, s2, s3, s4, s5, s6, s7⟩ 64).add ⟨s0, s1, s2, s3, s4, s5, s6, s7⟩).ws.map u32c = (blockH ⟨s0, s1, s2, s3, s4, s5, s6, s7⟩ l).cells) := by rw [HBH.out]; exact rfl
      clear hblk
      generalize (rTo ws ⟨s0, s1, s2, s3, s4, s5, s6, s7⟩ 64).ws = R at *
      generalize ((rTo ws ⟨s0, s1, s2, s3, s4, s5, s6, s7⟩ 64).add ⟨s0, s1, s2, s3, s4, s5, s6, s7⟩).ws = T at *
      obtain ⟨wo, rfl⟩ : ∃ wo : World, wo = wr := ⟨_, rfl⟩
      go_wp2
      go_loopw [90] (fun i wr => ∃ k : Nat, k ≤ 8 ∧ i = .int .i64 k ∧ Blk wr w.heap.size 174 (mixL R T k) ∧ Blk wr (w.heap.size + 1) 174 (reps 8 (.int .u32 0)) ∧ Blk wr (w.heap.size + 1 + 1) 174 (H8.cells ⟨s0, s1, s2, s3, s4, s5, s6, s7⟩) ∧ Below w.heap.size w wr) (fun i _ => 8 - (intOf i).toNat)
      case atStart => exact ⟨0, by omega, rfl, HM0.out, D1.out, D2.out, hbel⟩
      case round =>
        obtain ⟨k, hk, rfl, hblk, hb1, hb2, hbel⟩ := hrel
        have F0 := Lib.hid hblk; have F1 := Lib.hid hb1; have F2 := Lib.hid hb2
        by_cases hlt2 : k < 8
        · have c1 : wr.cell? ⟨w.heap.size, k, none⟩ = some (.int .u32 (un (R.getD k 0))) := by rw [hblk.cell]; exact mix_at R T HLR.out HLT.out k hlt2
          have c2 : wr.cell? ⟨w.heap.size + 1 + 1, k, none⟩ = some (.int .u32 (un (H8.ws ⟨s0, s1, s2, s3, s4, s5, s6, s7⟩ |>.getD k 0))) := by rw [hb2.cell]; exact ws_cell _ k hlt2
          have hf := hblk.free k
          have HS := Lib.hid (mix_set R T HLR.out HLT.out k hlt2)
          rw [HAD.out k hlt2] at HS
          generalize R.getD k 0 = x at *
          generalize (H8.ws ⟨s0, s1, s2, s3, s4, s5, s6, s7⟩ |>.getD k 0) = y at *
          have p0 : (0 : Int) ≤ (k : Int) := by omega
          have q0 : (k : Int) < 8 := by omega
          have e1 := w_add
          clear hblk hb1 hb2
          go_wp2
          go_region
          all_goals
            go_wp2
            go_roundw
            case rel =>
              first
                | exact ⟨k + 1, by omega, by go_num, by rw [← HS.out]; exact F0.out.set k _, F1.out.far (p := ⟨w.heap.size, k, none⟩) (by simp) _, F2.out.far (p := ⟨w.heap.size, k, none⟩) (by simp; omega) _, (hbel.setCell (p := ⟨w.heap.size, k, none⟩) (Nat.le_refl _) _).trans ⟨rfl, rfl, rfl, Nat.le_refl _, fun _ _ => rfl⟩⟩
                | ((repeat apply Exists.intro); exact ⟨⟨k + 1, by omega, by go_num, by rw [← HS.out]; exact F0.out.set k _, F1.out.far (p := ⟨w.heap.size, k, none⟩) (by simp) _, F2.out.far (p := ⟨w.heap.size, k, none⟩) (by simp; omega) _, (hbel.setCell (p := ⟨w.heap.size, k, none⟩) (Nat.le_refl _) _).trans ⟨rfl, rfl, rfl, Nat.le_refl _, fun _ _ => rfl⟩⟩, rfl⟩)
            case measure => simp [intOf]; omega
        · obtain rfl : k = 8 := by omega
          have HLL : Hid ((mixL R T 8).length = 8) := by rw [mix_all R T HLR.out HLT.out, List.length_map]; exact HLT.out
          have HRES : Hid (mixL R T 8 = (blockH ⟨s0, s1, s2, s3, s4, s5, s6, s7⟩ l).cells) := (mix_all R T HLR.out HLT.out).trans HTC.out
          have HONE : Hid ((mixL R T 8).toArray.all (·.oneCell') = true) := by rw [HRES.out]; exact all_one_words _
          have HNEW : Hid ((wr.setRow (w.heap.size + 1) (mixL R T 8).toArray).heap[w.heap.size + 1]? = some (.cells (mixL R T 8).toArray 174 (0, 0))) := setRow_heap wr (w.heap.size + 1) _ _ _ _ F1.out
          have HBW : Hid (Below w.heap.size w (wr.setRow (w.heap.size + 1) (mixL R T 8).toArray)) := below_row hbel (by omega) _
          clear hblk hb1 hb2
          go_wp2_with (first
            | (refine wpList_load_row rfl 174 (.tmp 2) rfl w.heap.size rfl 174 (mixL R T 8).toArray (0, 0) _ F0.out Tryz.underlying174 rfl (by rw [List.size_toArray, HLL.out]; kernel_rfl) ?_)
            | (refine wpList_store_row rfl 174 (.tmp 4) (.tmp 102) rfl (w.heap.size + 1) (mixL R T 8).toArray rfl rfl 174 (reps 8 (.int .u32 0)).toArray F1.out (by rw [List.size_toArray, HLL.out]; kernel_rfl) (by rw [List.size_toArray, List.size_toArray, HLL.out]; rfl) HONE.out ?_))
          exact bodyPost_ret (v := .agg (mixL R T 8).toArray) (results_cell_row Tryz.results171 _ _ (w.heap.size + 1) 174 _ (0, 0) _ rfl HNEW.out Tryz.underlying174 rfl (by rw [List.size_toArray, HLL.out]; kernel_rfl)) rfl ⟨by rw [HRES.out], HBW.out⟩
theorem block_any (s : H8) (A : Option Addr) (c : Nat) (l : List UInt8) (w : World) (h : Bs w A 64 c l) (hK : ShaK w) :
    Calls Tryz.prog 171 #[.agg s.cells.toArray, .slice A 64 c] w fun e w' => e = .returned (.agg (blockH s l).cells.toArray) ∧ Below w.heap.size w w' :=
  block_core s.a s.b s.c s.d s.e s.f s.g s.h A c l w h hK
end Go.Proofs.YtcfbbgbjlgonpaaGreatDoor
