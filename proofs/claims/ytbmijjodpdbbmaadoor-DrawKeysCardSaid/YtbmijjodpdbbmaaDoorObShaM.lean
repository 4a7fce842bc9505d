/- The rounds of a block: plain. No condition. -/
import Derived.Test.YtbmijjodpdbbmaaDoorObShaL
namespace Go.Proofs.YtbmijjodpdbbmaaDoor
set_option linter.unusedVariables false
def kTabI : List Int := [1116352408, 1899447441, 3049323471, 3921009573, 961987163, 1508970993, 2453635748, 2870763221, 3624381080, 310598401, 607225278, 1426881987, 1925078388, 2162078206, 2614888103, 3248222580, 3835390401, 4022224774, 264347078, 604807628, 770255983, 1249150122, 1555081692, 1996064986, 2554220882, 2821834349, 2952996808, 3210313671, 3336571891, 3584528711, 113926993, 338241895, 666307205, 773529912, 1294757372, 1396182291, 1695183700, 1986661051, 2177026350, 2456956037, 2730485921, 2820302411, 3259730800, 3345764771, 3516065817, 3600352804, 4094571909, 275423344, 430227734, 506948616, 659060556, 883997877, 958139571, 1322822218, 1537002063, 1747873779, 1955562222, 2024104815, 2227730452, 2361852424, 2428436474, 2756734187, 3204031479, 3329325298]
def kT (t : Nat) : UInt32 := UInt32.ofNat (kTabI.getD t 0).toNat
theorem kT_run : ((List.range 64).all fun t => decide (un (kT t) = kTabI.getD t 0)) = true := by decide +kernel
theorem kT_at (t : Nat) (h : t < 64) : kTabI.getD t 0 = un (kT t) := by
  have := List.all_eq_true.1 kT_run t (List.mem_range.2 h)
  exact (of_decide_eq_true this).symm
def kAll : List UInt32 := (List.range 64).map kT
structure H8 where
  a : UInt32
  b : UInt32
  c : UInt32
  d : UInt32
  e : UInt32
  f : UInt32
  g : UInt32
  h : UInt32
def H8.ws (s : H8) : List UInt32 := [s.a, s.b, s.c, s.d, s.e, s.f, s.g, s.h]
def H8.cells (s : H8) : List Value := s.ws.map u32c
def chW (e f g : UInt32) : UInt32 := g ^^^ (e &&& (f ^^^ g))
def majW (a b c : UInt32) : UInt32 := (a &&& b) ||| (c &&& (a ||| b))
def xW (k w : UInt32) (s : H8) : UInt32 := s.h + bs1 s.e + chW s.e s.f s.g + k + w
def yW (s : H8) : UInt32 := bs0 s.a + majW s.a s.b s.c
def rnd (k w : UInt32) (s : H8) : H8 := ⟨xW k w s + yW s, s.a, s.b, s.c, s.d + xW k w s, s.e, s.f, s.g⟩
def rTo (ws : List UInt32) (s : H8) : Nat → H8
  | 0 => s
  | t + 1 => rnd (kT t) (ws.getD t 0) (rTo ws s t)
def H8.add (s r : H8) : H8 := ⟨s.a + r.a, s.b + r.b, s.c + r.c, s.d + r.d, s.e + r.e, s.f + r.f, s.g + r.g, s.h + r.h⟩
/-- A block. -/
def blockH (s : H8) (b : List UInt8) : H8 := (rTo (wTo b 64) s 64).add s
theorem bit_eq {x y : UInt32} (h : ∀ i, x.toNat.testBit i = y.toNat.testBit i) : x = y := UInt32.toNat_inj.1 (Nat.eq_of_testBit_eq h)
/-- Choice and majority, as the document writes them. -/
theorem ch_eq (e f g : UInt32) : (e &&& f) ^^^ ((e ^^^ 4294967295) &&& g) = chW e f g := by
  unfold chW
  apply bit_eq
  intro i
  simp only [UInt32.toNat_xor, UInt32.toNat_and, Nat.testBit_xor, Nat.testBit_and]
  have hm : (4294967295 : UInt32).toNat = 2 ^ 32 - 1 := rfl
  rw [hm, Nat.testBit_two_pow_sub_one]
  by_cases hi : i < 32
  · simp only [hi, decide_true]
    cases e.toNat.testBit i <;> cases f.toNat.testBit i <;> cases g.toNat.testBit i <;> rfl
  · have hz : ∀ x : UInt32, x.toNat.testBit i = false := fun x => Nat.testBit_lt_two_pow (Nat.lt_of_lt_of_le (u32_lt x) (Nat.pow_le_pow_right (n := 2) (by decide) (show 32 ≤ i by omega)))
    simp [hz]
theorem maj_eq (a b c : UInt32) : ((a &&& b) ^^^ (a &&& c)) ^^^ (b &&& c) = majW a b c := by
  unfold majW
  apply bit_eq
  intro i
  simp only [UInt32.toNat_xor, UInt32.toNat_and, UInt32.toNat_or, Nat.testBit_xor, Nat.testBit_and, Nat.testBit_or]
  cases a.toNat.testBit i <;> cases b.toNat.testBit i <;> cases c.toNat.testBit i <;> rfl
/-! ### what stood there is added, one word after the other -/
def mixL (R T : List UInt32) (k : Nat) : List Value := (T.take k ++ R.drop k).map u32c
theorem mix_zero (R T : List UInt32) : mixL R T 0 = R.map u32c := by simp [mixL]
theorem mix_all (R T : List UInt32) (hR : R.length = 8) (hT : T.length = 8) : mixL R T 8 = T.map u32c := by
  unfold mixL
  rw [List.take_of_length_le (by omega), List.drop_eq_nil_of_le (by omega), List.append_nil]
theorem mix_at (R T : List UInt32) (hR : R.length = 8) (hT : T.length = 8) (k : Nat) (hk : k < 8) : (mixL R T k)[k]? = some (.int .u32 (un (R.getD k 0))) := by
  unfold mixL
  rw [List.getElem?_map, List.getElem?_append_right (by simp; omega), List.length_take, hT, Nat.min_eq_left (by omega), Nat.sub_self, List.getElem?_drop, Nat.add_zero, List.getElem?_eq_getElem (by omega), List.getD_eq_getElem?_getD, List.getElem?_eq_getElem (by omega)]
  rfl
theorem mix_set (R T : List UInt32) (hR : R.length = 8) (hT : T.length = 8) (k : Nat) (hk : k < 8) : (mixL R T k).set k (.int .u32 (un (T.getD k 0))) = mixL R T (k + 1) := by
  unfold mixL
  have hl : (T.take k).length = k := by simp; omega
  rw [List.take_succ_eq_append_getElem (by omega), List.drop_eq_getElem_cons (show k < R.length by omega)]
  rw [List.map_append, List.set_append_right _ _ (by simp; omega), List.length_map, hl, Nat.sub_self, List.map_cons, List.set_cons_zero, List.map_append, List.map_append, List.append_assoc]
  rw [List.getD_eq_getElem?_getD, List.getElem?_eq_getElem (by omega)]
  rfl
theorem add_at (s r : H8) (k : Nat) (hk : k < 8) : (s.add r).ws.getD k 0 = s.ws.getD k 0 + r.ws.getD k 0 := by
  obtain rfl | rfl | rfl | rfl | rfl | rfl | rfl | rfl : k = 0 ∨ k = 1 ∨ k = 2 ∨ k = 3 ∨ k = 4 ∨ k = 5 ∨ k = 6 ∨ k = 7 := by omega
  all_goals rfl
theorem ws_cell (s : H8) (k : Nat) (hk : k < 8) : s.cells[k]? = some (.int .u32 (un (s.ws.getD k 0))) := by
  obtain rfl | rfl | rfl | rfl | rfl | rfl | rfl | rfl : k = 0 ∨ k = 1 ∨ k = 2 ∨ k = 3 ∨ k = 4 ∨ k = 5 ∨ k = 6 ∨ k = 7 := by omega
  all_goals rfl
theorem w_not (x : UInt32) : bits .xor .u32 (if IntKind.u32.signed = true then -1 else IntKind.u32.max) (un x) = un (x ^^^ 4294967295) := by
  have h : (if IntKind.u32.signed = true then (-1 : Int) else IntKind.u32.max) = un 4294967295 := by decide
  rw [h, w_xor, UInt32.xor_comm]
/-- A round, as the document writes it. -/
def rndR (kt wt r0 r1 r2 r3 r4 r5 r6 r7 : UInt32) : List Value := [.int .u32 (un ((r7 + (rotR r4 6 ^^^ rotR r4 11 ^^^ rotR r4 25) + (r4 &&& r5 ^^^ (r4 ^^^ 4294967295) &&& r6) + kt + wt) + ((rotR r0 2 ^^^ rotR r0 13 ^^^ rotR r0 22) + (r0 &&& r1 ^^^ r0 &&& r2 ^^^ r1 &&& r2)))), .int .u32 (un r0), .int .u32 (un r1), .int .u32 (un r2), .int .u32 (un (r3 + (r7 + (rotR r4 6 ^^^ rotR r4 11 ^^^ rotR r4 25) + (r4 &&& r5 ^^^ (r4 ^^^ 4294967295) &&& r6) + kt + wt))), .int .u32 (un r4), .int .u32 (un r5), .int .u32 (un r6)]
theorem rnd_ref (kt wt r0 r1 r2 r3 r4 r5 r6 r7 : UInt32) : rndR kt wt r0 r1 r2 r3 r4 r5 r6 r7 = (rnd kt wt ⟨r0, r1, r2, r3, r4, r5, r6, r7⟩).cells := by
  unfold rndR rnd xW yW
  rw [ch_eq, maj_eq]
  rfl
end Go.Proofs.YtbmijjodpdbbmaaDoor
