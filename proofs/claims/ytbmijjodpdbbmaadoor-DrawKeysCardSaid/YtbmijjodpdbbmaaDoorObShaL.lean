/- Words of 32 bits, as the walk spells them. No condition. -/
import Derived.Test.YtbmijjodpdbbmaaDoorObNumL
import Derived.Laws.BitsAllLaws
namespace Go.Proofs.YtbmijjodpdbbmaaDoor
set_option linter.unusedVariables false
/-- A word's cell. -/
def un (x : UInt32) : Int := (x.toNat : Int)
def u32c (x : UInt32) : Value := .int .u32 (un x)
theorem u32_lt (x : UInt32) : x.toNat < 4294967296 := x.toNat_lt
theorem un_nn (x : UInt32) : 0 ≤ un x := by unfold un; omega
theorem un_lt (x : UInt32) : un x < 4294967296 := by unfold un; have := u32_lt x; omega
theorem w_xor (x y : UInt32) : bits .xor .u32 (un x) (un y) = un (x ^^^ y) := by
  unfold un
  rw [u32_xor_nat _ _ (u32_lt x) (u32_lt y), UInt32.toNat_xor]
theorem w_and (x y : UInt32) : bits .and .u32 (un x) (un y) = un (x &&& y) := by
  unfold un
  rw [u32_and_nat _ _ (u32_lt x) (u32_lt y), UInt32.toNat_and]
theorem w_or (x y : UInt32) : bits .or .u32 (un x) (un y) = un (x ||| y) := by
  unfold un
  rw [u32_or_nat _ _ (u32_lt x) (u32_lt y), UInt32.toNat_or]
theorem w_add (x y : UInt32) : IntKind.u32.wrap (un x + un y) = un (x + y) := by
  unfold un
  rw [IntKind.wrap_u32, UInt32.toNat_add]; omega
/-- Turned to the right. -/
def rotR (x : UInt32) (n : Nat) : UInt32 := UInt32.ofNat (x.toNat / 2 ^ n + x.toNat * 2 ^ (32 - n) % 4294967296)
theorem rot_lt (x : Nat) (hx : x < 4294967296) (n : Nat) (hn : n ≤ 32) : x / 2 ^ n + x * 2 ^ (32 - n) % 4294967296 < 4294967296 := by
  have e : (4294967296 : Nat) = 2 ^ n * 2 ^ (32 - n) := by rw [← Nat.pow_add]; simp [hn]
  have h1 : x / 2 ^ n < 2 ^ (32 - n) := by
    rw [Nat.div_lt_iff_lt_mul (Nat.pow_pos (by decide)), Nat.mul_comm, ← e]; exact hx
  have h2 : x * 2 ^ (32 - n) % 4294967296 = (x % 2 ^ n) * 2 ^ (32 - n) := by rw [e, Nat.mul_mod_mul_right]
  have h3 : x % 2 ^ n < 2 ^ n := Nat.mod_lt _ (Nat.pow_pos (by decide))
  have h4 : (x % 2 ^ n + 1) * 2 ^ (32 - n) ≤ 2 ^ n * 2 ^ (32 - n) := Nat.mul_le_mul_right _ h3
  rw [h2, e]
  rw [Nat.add_mul] at h4
  omega
theorem rot_nat (x : UInt32) (n : Nat) (hn : n ≤ 32) : (rotR x n).toNat = x.toNat / 2 ^ n + x.toNat * 2 ^ (32 - n) % 4294967296 := by
  unfold rotR
  rw [UInt32.toNat_ofNat_of_lt' (rot_lt _ (u32_lt x) n hn)]
theorem rot_or (x : Nat) (hx : x < 4294967296) (n : Nat) (hn : n ≤ 32) : x * 2 ^ (32 - n) % 4294967296 ||| x / 2 ^ n = x / 2 ^ n + x * 2 ^ (32 - n) % 4294967296 := by
  have e : (4294967296 : Nat) = 2 ^ n * 2 ^ (32 - n) := by rw [← Nat.pow_add]; simp [hn]
  have h1 : x / 2 ^ n < 2 ^ (32 - n) := by
    rw [Nat.div_lt_iff_lt_mul (Nat.pow_pos (by decide)), Nat.mul_comm, ← e]; exact hx
  have h2 : x * 2 ^ (32 - n) % 4294967296 = 2 ^ (32 - n) * (x % 2 ^ n) := by rw [e, Nat.mul_mod_mul_right, Nat.mul_comm]
  rw [h2, ← Nat.two_pow_add_eq_or_of_lt h1, Nat.add_comm]
theorem rot_v (x : UInt32) (n : Nat) (p q : Nat) (hn : n ≤ 32) (hp : p = 2 ^ (32 - n)) (hq : q = 2 ^ n) : bits .or .u32 (un x * (p : Int) % 4294967296) (un x / (q : Int)) = un (rotR x n) := by
  unfold un
  have h := rot_or x.toNat (u32_lt x) n hn
  have h2 := rot_lt x.toNat (u32_lt x) n hn
  subst hp hq
  have e1 : (x.toNat : Int) * ((2 ^ (32 - n) : Nat) : Int) % 4294967296 = ((x.toNat * 2 ^ (32 - n) % 4294967296 : Nat) : Int) := by rw [Int.natCast_emod, Int.natCast_mul]; rfl
  have e2 : (x.toNat : Int) / ((2 ^ n : Nat) : Int) = ((x.toNat / 2 ^ n : Nat) : Int) := by rw [Int.natCast_ediv]
  rw [e1, e2, u32_or_nat _ _ (by omega) (by omega), h, rot_nat x n hn]
theorem rot_v' (x : UInt32) (n : Nat) (p q : Nat) (hn : n ≤ 32) (hp : p = 2 ^ (32 - n)) (hq : q = 2 ^ n) : bits .or .u32 (un x / (q : Int)) (un x * (p : Int) % 4294967296) = un (rotR x n) := by
  unfold un
  have h := rot_or x.toNat (u32_lt x) n hn
  have h2 := rot_lt x.toNat (u32_lt x) n hn
  subst hp hq
  have e1 : (x.toNat : Int) * ((2 ^ (32 - n) : Nat) : Int) % 4294967296 = ((x.toNat * 2 ^ (32 - n) % 4294967296 : Nat) : Int) := by rw [Int.natCast_emod, Int.natCast_mul]; rfl
  have e2 : (x.toNat : Int) / ((2 ^ n : Nat) : Int) = ((x.toNat / 2 ^ n : Nat) : Int) := by rw [Int.natCast_ediv]
  rw [e1, e2, u32_or_nat _ _ (by omega) (by omega), Nat.or_comm, h, rot_nat x n hn]
def shrW (x : UInt32) (n : Nat) : UInt32 := UInt32.ofNat (x.toNat / 2 ^ n)
theorem shr_nat (x : UInt32) (n : Nat) : (shrW x n).toNat = x.toNat / 2 ^ n := by
  unfold shrW
  rw [UInt32.toNat_ofNat_of_lt' (Nat.lt_of_le_of_lt (Nat.div_le_self _ _) (u32_lt x))]
theorem shr3 (x : UInt32) : un x / 8 = un (shrW x 3) := by unfold un; rw [shr_nat, Int.natCast_ediv]; rfl
theorem shr10 (x : UInt32) : un x / 1024 = un (shrW x 10) := by unfold un; rw [shr_nat, Int.natCast_ediv]; rfl
theorem w_add' (x y : UInt32) : (un x + un y) % 4294967296 = un (x + y) := by unfold un; rw [UInt32.toNat_add]; omega
def sg0 (x : UInt32) : UInt32 := rotR x 7 ^^^ rotR x 18 ^^^ shrW x 3
def sg1 (x : UInt32) : UInt32 := rotR x 17 ^^^ rotR x 19 ^^^ shrW x 10
def bs0 (x : UInt32) : UInt32 := rotR x 2 ^^^ rotR x 13 ^^^ rotR x 22
def bs1 (x : UInt32) : UInt32 := rotR x 6 ^^^ rotR x 11 ^^^ rotR x 25
/-! ### a block's words -/
def wordAt (b : List UInt8) (t : Nat) : UInt32 := UInt32.ofNat (getL ((b.drop (4 * t)).take 4))
def wNext (ws : List UInt32) (t : Nat) : UInt32 := sg1 (ws.getD (t - 2) 0) + ws.getD (t - 7) 0 + sg0 (ws.getD (t - 15) 0) + ws.getD (t - 16) 0
def wTo (b : List UInt8) : Nat → List UInt32
  | 0 => []
  | t + 1 => wTo b t ++ [if t < 16 then wordAt b t else wNext (wTo b t) t]
theorem wTo_len (b : List UInt8) : ∀ t, (wTo b t).length = t
  | 0 => rfl
  | t + 1 => by simp [wTo, wTo_len b t]
def wCells (b : List UInt8) (t : Nat) : List Value := (wTo b t).map u32c ++ reps (64 - t) (.int .u32 0)
theorem wCells_len (b : List UInt8) (t : Nat) (h : t ≤ 64) : (wCells b t).length = 64 := by simp [wCells, wTo_len, reps_length]; omega
theorem wCells_at (b : List UInt8) (t j : Nat) (h : j < t) : (wCells b t)[j]? = some (.int .u32 (un ((wTo b t).getD j 0))) := by
  have hl := wTo_len b t
  unfold wCells
  rw [List.getElem?_append_left (by simp [hl]; exact h), List.getElem?_map, List.getElem?_eq_getElem (by omega), List.getD_eq_getElem?_getD, List.getElem?_eq_getElem (by omega)]
  rfl
theorem wCells_rest (b : List UInt8) (t : Nat) (h : t < 64) : (wCells b t)[t]? = some (.int .u32 0) := by
  have hl := wTo_len b t
  unfold wCells
  rw [List.getElem?_append_right (by simp [hl]), List.length_map, hl, Nat.sub_self]
  exact reps_at _ (by omega)
theorem wCells_set (b : List UInt8) (t : Nat) (x : UInt32) (h : t < 64) (hx : (if t < 16 then wordAt b t else wNext (wTo b t) t) = x) : (wCells b t).set t (.int .u32 (un x)) = wCells b (t + 1) := by
  have hl := wTo_len b t
  unfold wCells
  rw [List.set_append_right _ _ (by simp [hl]), List.length_map, hl, Nat.sub_self, show 64 - t = (64 - (t + 1)) + 1 by omega]
  rw [show reps (64 - (t + 1) + 1) (.int .u32 0) = .int .u32 0 :: reps (64 - (t + 1)) (.int .u32 0) by simp [reps, List.replicate_succ], List.set_cons_zero, wTo, hx, List.map_append, List.append_assoc]
  rfl
theorem wCells_zero (b : List UInt8) : wCells b 0 = reps 64 (.int .u32 0) := rfl
theorem wCells_all (b : List UInt8) : wCells b 64 = (wTo b 64).map u32c := by simp [wCells, reps]
end Go.Proofs.YtbmijjodpdbbmaaDoor
