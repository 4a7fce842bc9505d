/- Bits of numbers without sign, as Nat has them. No condition. -/
import Derived.WalkKit
import Derived.Laws.BitsAllLaws
namespace Go.Proofs.YtbmijjodpdbbmaaDoor
theorem ofInt_nat (k a : Nat) (ha : a < 2 ^ k) : (BitVec.ofInt k (a : Int)).toNat = a := by
  rw [BitVec.ofInt_natCast, BitVec.toNat_ofNat]; exact Nat.mod_eq_of_lt ha
theorem u64_or (a b : Nat) (ha : a < 2 ^ 64) (hb : b < 2 ^ 64) : bits .or .u64 (a : Int) (b : Int) = ((a ||| b : Nat) : Int) := by
  have hx : a ||| b < 2 ^ 64 := Nat.or_lt_two_pow ha hb
  show IntKind.u64.wrap ((BitVec.ofInt 64 (a : Int) ||| BitVec.ofInt 64 (b : Int)).toNat : Int) = _
  rw [BitVec.toNat_or, ofInt_nat 64 a ha, ofInt_nat 64 b hb, IntKind.wrap_u64]
  omega
theorem u8_xor (a b : Nat) (ha : a < 2 ^ 8) (hb : b < 2 ^ 8) : bits .xor .u8 (a : Int) (b : Int) = ((a ^^^ b : Nat) : Int) := by
  have hx : a ^^^ b < 2 ^ 8 := Nat.xor_lt_two_pow ha hb
  show IntKind.u8.wrap ((BitVec.ofInt 8 (a : Int) ^^^ BitVec.ofInt 8 (b : Int)).toNat : Int) = _
  rw [BitVec.toNat_xor, ofInt_nat 8 a ha, ofInt_nat 8 b hb, IntKind.wrap_u8]
  omega
theorem or_add (x b : Nat) (hb : b < 256) : x * 256 ||| b = x * 256 + b := by
  rw [Nat.mul_comm, ← Nat.two_pow_add_eq_or_of_lt (i := 8) hb x]
theorem u64_or_byte (x : Nat) (b : Int) (h0 : 0 ≤ b) (hb : b < 256) (hx : x < 72057594037927936) : bits .or .u64 ((x : Int) * 256) b = (x : Int) * 256 + b := by
  obtain ⟨b, rfl⟩ := Int.eq_ofNat_of_zero_le h0
  have := u64_or (x * 256) b (by omega) (by omega)
  rw [or_add x b (by omega)] at this
  simpa using this
end Go.Proofs.YtbmijjodpdbbmaaDoor
