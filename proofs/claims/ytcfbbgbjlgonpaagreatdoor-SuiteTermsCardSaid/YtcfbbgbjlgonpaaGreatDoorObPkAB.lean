/- Own texts of this claim, one behind the other. No condition. -/
import Derived.Test.YtcfbbgbjlgonpaaGreatDoorObPkAA
import Derived.WalkKit
import Derived.Laws.BitsAllLaws
import Derived.Test.YtcfbbgbjlgonpaaGreatDoorProg
import Derived.Outline
import Derived.Deep.QuietTactic
import Derived.BigQuiet

/- ObNumL, ObBits, ObNumW: one text. No condition. -/
/- Numbers as bytes: plain functions on lists of bytes, and what they answer. No condition. -/
namespace Go.Proofs.YtcfbbgbjlgonpaaGreatDoor
set_option linter.unusedVariables false

/-- The number of bytes, the greatest first. -/
def getL (l : List UInt8) : Nat := l.foldl (fun n c => n * 256 + c.toNat) 0
theorem getL_snoc (l : List UInt8) (c : UInt8) : getL (l ++ [c]) = getL l * 256 + c.toNat := by simp [getL]
theorem foldl_lt (l : List UInt8) (a : Nat) : l.foldl (fun n c => n * 256 + c.toNat) a < (a + 1) * 256 ^ l.length := by
  induction l generalizing a with
  | nil => simp
  | cons c l ih =>
    simp only [List.foldl_cons, List.length_cons, Nat.pow_succ]
    have := ih (a * 256 + c.toNat)
    have hc := c.toNat_lt
    refine Nat.lt_of_lt_of_le this ?_
    rw [Nat.mul_comm (256 ^ l.length) 256, ← Nat.mul_assoc]
    exact Nat.mul_le_mul_right _ (by omega)
theorem getL_lt (l : List UInt8) : getL l < 256 ^ l.length := by simpa [getL] using foldl_lt l 0
theorem take_snoc (l : List UInt8) (k : Nat) (h : k < l.length) : l.take (k + 1) = l.take k ++ [l.getD k 0] := by
  rw [List.take_succ_eq_append_getElem h]; simp [h]
theorem getL_take (l : List UInt8) (k : Nat) (h : k < l.length) : (getL (l.take (k + 1)) : Int) = getL (l.take k) * 256 + bAt l k := by
  rw [take_snoc l k h, getL_snoc]; unfold bAt; omega
theorem getL_take_lt (l : List UInt8) (k : Nat) (hk : k < 8) : getL (l.take k) < 72057594037927936 := by
  refine Nat.lt_of_lt_of_le (getL_lt _) ?_
  have : (l.take k).length ≤ 7 := by simp; omega
  exact Nat.le_trans (Nat.pow_le_pow_right (by omega) this) (by decide)

/-- The last 'size' bytes of a number, the greatest first. -/
def be (n : Nat) : Nat → List UInt8
  | 0 => []
  | s + 1 => be (n / 256) s ++ [UInt8.ofNat n]
theorem be_length (s : Nat) : ∀ n, (be n s).length = s := by
  induction s with
  | zero => intro n; rfl
  | succ s ih => intro n; simp [be, ih]
theorem getL_be (s : Nat) : ∀ n, n < 256 ^ s → getL (be n s) = n := by
  induction s with
  | zero => intro n h; simp at h; subst h; rfl
  | succ s ih =>
    intro n h
    rw [be, getL_snoc, ih _ (by rw [Nat.pow_succ] at h; omega)]
    simp only [UInt8.toNat_ofNat']
    omega
/-- Put in the program's way: from the top on. -/
def putTo (n size k : Nat) : List UInt8 := be (n / 256 ^ (size - k)) k
theorem putTo_succ (n size k : Nat) (h : k < size) : putTo n size (k + 1) = putTo n size k ++ [UInt8.ofNat (n / 256 ^ (size - 1 - k))] := by
  unfold putTo
  rw [be, Nat.div_div_eq_div_mul, ← Nat.pow_succ]
  have h1 : size - (k + 1) + 1 = size - k := by omega
  have h2 : size - (k + 1) = size - 1 - k := by omega
  rw [Nat.succ_eq_add_one, h1, h2]
theorem putTo_all (n size : Nat) : putTo n size size = be n size := by simp [putTo]
/-- Put in the document's way: from the end on: what stands behind when k cells are left. -/
theorem be_drop (size k : Nat) : ∀ n, k < size → (be n size).drop k = UInt8.ofNat (n / 256 ^ (size - 1 - k)) :: (be n size).drop (k + 1) := by
  induction size generalizing k with
  | zero => intro n h; omega
  | succ s ih =>
    intro n h
    have hl := be_length s (n / 256)
    rw [be]
    by_cases hk : k < s
    · rw [List.drop_append_of_le_length (by omega), List.drop_append_of_le_length (by omega), ih k _ hk, Nat.div_div_eq_div_mul]
      have : 256 * 256 ^ (s - 1 - k) = 256 ^ (s + 1 - 1 - k) := by
        rw [Nat.mul_comm, ← Nat.pow_succ]; congr 1; omega
      rw [this]; rfl
    · have : k = s := by omega
      subst this
      rw [List.drop_append, List.drop_append]
      have e1 : List.drop k (be (n / 256) k) = [] := List.drop_of_length_le (by omega)
      have e2 : List.drop (k + 1) (be (n / 256) k) = [] := List.drop_of_length_le (by omega)
      simp [hl, e1, e2]
theorem u8c_ofNat (m : Nat) : u8c (UInt8.ofNat m) = .int .u8 ((m : Int) % 256) := by
  unfold u8c
  rw [UInt8.toNat_ofNat']
  rfl
theorem putTo_cell (n size k : Nat) (h : k < size) :
    (putTo n size (k + 1)).map u8c = (putTo n size k).map u8c ++ [.int .u8 ((n : Int) / 2 ^ (8 * (size - 1 - k)) % 256)] := by
  rw [putTo_succ n size k h, List.map_append, List.map_singleton, u8c_ofNat]
  have : (256 : Nat) ^ (size - 1 - k) = 2 ^ (8 * (size - 1 - k)) := by rw [Nat.pow_mul]
  rw [this]
  simp
/-- What the document's Put has written when k cells are left. -/
def putFrom (n size k : Nat) : List Value := reps k (.int .u8 0) ++ ((be n size).drop k).map u8c
theorem putFrom_all (n size : Nat) : putFrom n size size = reps size (.int .u8 0) := by
  unfold putFrom
  rw [List.drop_of_length_le (by rw [be_length]; omega)]; simp
theorem putFrom_zero (n size : Nat) : putFrom n size 0 = (be n size).map u8c := by simp [putFrom, reps]
theorem putFrom_at (n size k j : Nat) (h : k ≤ size) (hj : j < k) : (putFrom n size k)[j]? = some (.int .u8 0) := by
  unfold putFrom
  rw [List.getElem?_append_left (by rw [reps_length]; exact hj), reps_at _ hj]
theorem putFrom_set (n size k : Nat) (h : k < size) :
    (putFrom n size (k + 1)).set k (.int .u8 ((n / 256 ^ (size - 1 - k) : Nat) % 256 : Int)) = putFrom n size k := by
  unfold putFrom
  rw [be_drop size k n h, List.map_cons, u8c_ofNat]
  have e : reps (k + 1) (.int .u8 0) = reps k (.int .u8 0) ++ [.int .u8 0] := by unfold reps; rw [List.replicate_succ']
  rw [e, List.append_assoc, List.set_append_right _ _ (by rw [reps_length]; omega), reps_length, Nat.sub_self]
  rfl
theorem shift_lt (n m : Nat) (hn : n < 18446744073709551616) : n / 256 ^ m < 18446744073709551616 := Nat.lt_of_le_of_lt (Nat.div_le_self _ _) hn
theorem shift_succ (n size k : Nat) (h : k + 1 ≤ size) : ((n / 256 ^ (size - k) : Nat) : Int) = ((n / 256 ^ (size - (k + 1)) : Nat) : Int) / 256 := by
  have : size - k = size - (k + 1) + 1 := by omega
  rw [this, Nat.pow_succ, ← Nat.div_div_eq_div_mul]; rfl
theorem bAt_inj {a b : List UInt8} {k : Nat} (h : bAt a k = bAt b k) : a.getD k 0 = b.getD k 0 := by
  unfold bAt at h
  exact UInt8.toNat_inj.1 (by omega)
theorem take_same {a b : List UInt8} {k : Nat} (ha : k < a.length) (hb : k < b.length) (h : a.take k = b.take k) (he : bAt a k = bAt b k) : a.take (k + 1) = b.take (k + 1) := by
  rw [take_snoc a k ha, take_snoc b k hb, h, bAt_inj he]
theorem ne_of_bAt {a b : List UInt8} {k : Nat} (h : bAt a k ≠ bAt b k) : (a == b) = false := by
  rw [beq_eq_false_iff_ne]
  rintro rfl
  exact h rfl
end Go.Proofs.YtcfbbgbjlgonpaaGreatDoor
/- Bits of numbers without sign, as Nat has them. No condition. -/
namespace Go.Proofs.YtcfbbgbjlgonpaaGreatDoor
theorem ofInt_nat (k a : Nat) (ha : a < 2 ^ k) : (BitVec.ofInt k (a : Int)).toNat = a := by
  rw [BitVec.ofInt_natCast, BitVec.toNat_ofNat]; exact Nat.mod_eq_of_lt ha
theorem u64_or (a b : Nat) (ha : a < 2 ^ 64) (hb : b < 2 ^ 64) : bits .or .u64 (a : Int) (b : Int) = ((a ||| b : Nat) : Int) := by
  have hx : a ||| b < 2 ^ 64 := Nat.or_lt_two_pow ha hb
  show IntKind.u64.wrap ((BitVec.ofInt 64 (a : Int) ||| BitVec.ofInt 64 (b : Int)).toNat : Int) = _
  rw [BitVec.toNat_or, ofInt_nat 64 a ha, ofInt_nat 64 b hb, IntKind.wrap_u64]
  omega
theorem or_add (x b : Nat) (hb : b < 256) : x * 256 ||| b = x * 256 + b := by
  rw [Nat.mul_comm, ← Nat.two_pow_add_eq_or_of_lt (i := 8) hb x]
theorem u64_or_byte (x : Nat) (b : Int) (h0 : 0 ≤ b) (hb : b < 256) (hx : x < 72057594037927936) : bits .or .u64 ((x : Int) * 256) b = (x : Int) * 256 + b := by
  obtain ⟨b, rfl⟩ := Int.eq_ofNat_of_zero_le h0
  have := u64_or (x * 256) b (by omega) (by omega)
  rw [or_add x b (by omega)] at this
  simpa using this
end Go.Proofs.YtcfbbgbjlgonpaaGreatDoor
namespace Go.Proofs.YtcfbbgbjlgonpaaGreatDoor
open Go.RowKit
set_option linter.unusedVariables false

theorem tBytes : ElemT Tryz.prog 28 5 (.int .u8 0) 1 1 := ⟨Tryz.underlying28, by kernel_rfl, rfl, by decide, by decide⟩

def RetBs (w : World) (l : List UInt8) (e : Ending) (w' : World) : Prop := ∃ v, e = .returned v ∧ Own w w' 5 1 v l.length (l.map u8c)

set_option maxHeartbeats 400000 in
theorem refGet_yes (A : Option Addr) (n c : Nat) (l : List UInt8) (w : World) (h : Bs w A n c l) (h1 : 1 ≤ n) (h8 : n ≤ 8) :
    Calls Tryz.prog 72 #[.slice A n c] w fun e w' => e = .returned (.tuple #[.int .u64 (getL l), .int .i64 0]) ∧ w = w' := by
  have hc := h.cap
  have hm := h.max
  have HL := Lib.hid h.len
  obtain ⟨b, o, rfl, hcell⟩ := h.addr (by omega)
  have HC := Lib.hid hcell; clear hcell h
  have t1 : decide ((n : Int) < 1) = false := by simp; omega
  have t2 : decide (8 < (n : Int)) = false := by simp; omega
  go_enter Tryz.func72, Tryz.ntmps72
  go_wp2
  clear t1 t2
  go_loop [4, 5] (fun a i => ∃ k : Nat, k ≤ n ∧ i = .int .i64 k ∧ a = .int .u64 (getL (l.take k))) (fun _ i => n - (intOf i).toNat)
  case atStart => exact ⟨0, Nat.zero_le _, rfl, rfl⟩
  case round =>
    obtain ⟨k, hk, rfl, rfl⟩ := hrel
    by_cases hlt : k < n
    · have hcell := HC.out k hlt
      have hb := getL_take_lt l k (by omega)
      have hb2 := bAt_nn l k
      have hb3 := bAt_lt l k
      have HS := Lib.hid (getL_take l k (by rw [HL.out]; exact hlt))
      go_wp2
      go_round
      case rel => exact ⟨k + 1, by omega, by go_num, by rw [HS.out]⟩
      case measure => simp [intOf]; omega
    · obtain rfl : k = n := by omega
      go_wp2
      go_ret2
      refine ⟨?_, rfl⟩
      show Ending.returned (.tuple #[.int .u64 (getL (l.take k)), .int .i64 0]) = _
      rw [List.take_of_length_le (by rw [HL.out]; omega)]

set_option maxHeartbeats 400000 in
theorem get_yes (A : Option Addr) (n c : Nat) (l : List UInt8) (w : World) (h : Bs w A n c l) (h1 : 1 ≤ n) (h8 : n ≤ 8) :
    Calls Tryz.prog 37 #[.slice A n c] w fun e w' => e = .returned (.tuple #[.int .u64 (getL l), .int .i64 0]) ∧ w = w' := by
  have hc := h.cap
  have hm := h.max
  have HL := Lib.hid h.len
  obtain ⟨b, o, rfl, hcell⟩ := h.addr (by omega)
  have HC := Lib.hid hcell; clear hcell h
  have t1 : ((n : Int) == 0) = false := by simp; omega
  have t2 : decide (8 < (n : Int)) = false := by simp; omega
  go_enter Tryz.func37, Tryz.ntmps37
  go_wp2
  clear t1 t2
  go_loop [2, 16] (fun a i => ∃ k : Nat, k ≤ n ∧ i = .int .i64 k ∧ a = .int .u64 (getL (l.take k))) (fun _ i => n - (intOf i).toNat)
  case atStart => exact ⟨0, Nat.zero_le _, rfl, rfl⟩
  case round =>
    obtain ⟨k, hk, rfl, rfl⟩ := hrel
    by_cases hlt : k < n
    · have hcell := HC.out k hlt
      have hb := getL_take_lt l k (by omega)
      have hb2 := bAt_nn l k
      have hb3 := bAt_lt l k
      have HS := Lib.hid (getL_take l k (by rw [HL.out]; exact hlt))
      go_wp2
      go_round
      case rel => exact ⟨k + 1, by omega, by go_num, by rw [HS.out, u64_or_byte _ _ hb2 hb3 hb]⟩
      case measure => simp [intOf]; omega
    · obtain rfl : k = n := by omega
      go_wp2
      go_ret2
      refine ⟨?_, rfl⟩
      show Ending.returned (.tuple #[.int .u64 (getL (l.take k)), .int .i64 0]) = _
      rw [List.take_of_length_le (by rw [HL.out]; omega)]

theorem get_no (A : Option Addr) (n c : Nat) (w : World) (hm : n ≤ 9223372036854775807) (h : n < 1 ∨ 8 < n) :
    Calls Tryz.prog 37 #[.slice A n c] w fun e w' => e = .returned (.tuple #[.int .u64 0, .int .i64 4]) ∧ w = w' := by
  rcases h with h | h
  · have t1 : ((n : Int) == 0) = true := by simp; omega
    go_enter Tryz.func37, Tryz.ntmps37
    go_wp2
    go_ret2
    exact ⟨rfl, rfl⟩
  · have t1 : ((n : Int) == 0) = false := by simp; omega
    have t2 : decide (8 < (n : Int)) = true := by simp; omega
    go_enter Tryz.func37, Tryz.ntmps37
    go_wp2
    go_ret2
    exact ⟨rfl, rfl⟩

set_option maxHeartbeats 400000 in
theorem put_yes (n : Nat) (size : Nat) (w : World) (hn : n < 18446744073709551616) (h1 : 1 ≤ size) (h8 : size ≤ 8) :
    Calls Tryz.prog 73 #[.int .u64 n, .int .i64 size] w (RetBs w (be n size)) := by
  have t1 : decide ((size : Int) < 1) = false := by simp; omega
  have t2 : decide (8 < (size : Int)) = false := by simp; omega
  go_enter Tryz.func73, Tryz.ntmps73
  go_wp2
  go_step3
  go_wp2
  go_step3
  go_wp2
  clear t1 t2
  go_loopw [4, 5] (fun v i wr => ∃ k : Nat, k ≤ size ∧ i = .int .i64 (size - 1 - k : Int) ∧ Own w wr 5 1 v k ((putTo n size k).map u8c)) (fun _ i _ => (intOf i + 1).toNat)
  case atStart => exact ⟨0, Nat.zero_le _, by go_num, Own.nil _ _ _⟩
  case round =>
    obtain ⟨k, hk, rfl, hown⟩ := hrel
    by_cases hlt : k < size
    · go_wp2_with (at_builtin; refine wpList_push rfl _ _ 28 rfl tBytes rfl hown #[_] rfl rfl (by intro u hu; simp at hu; subst hu; rfl) (by omega) ?_; intro v1 w1 hown1)
      go_roundw
      case rel =>
        exact ⟨k + 1, by omega, by go_num, by rw [putTo_cell _ _ _ hlt]; exact hown1⟩
      case measure => simp [intOf]; omega
    · obtain rfl : k = size := by omega
      go_wp2
      rw [Exit.noGoto_ret]
      go_ret
      rw [putTo_all] at hown
      exact ⟨_, rfl, by rw [be_length]; exact hown⟩

theorem put_no (n size : Int) (w : World) (h : size < 1 ∨ 8 < size) :
    Calls Tryz.prog 73 #[.int .u64 n, .int .i64 size] w (RetBs w []) := by
  have fin : RetBs w [] (.returned (.slice none 0 0)) w := ⟨_, rfl, Own.nil _ _ _⟩
  rcases h with h | h
  · have t1 : decide (size < 1) = true := by simpa using h
    go_enter Tryz.func73, Tryz.ntmps73
    go_wp2
    go_step3
    go_wp2
    rw [Exit.noGoto_ret]
    go_ret
    exact fin
  · have t1 : decide (size < 1) = false := by simp; omega
    have t2 : decide (8 < size) = true := by simpa using h
    go_enter Tryz.func73, Tryz.ntmps73
    go_wp2
    go_step3
    go_wp2
    rw [Exit.noGoto_ret]
    go_ret
    exact fin

set_option maxHeartbeats 400000 in
theorem refPut_yes (n : Nat) (size : Nat) (w : World) (hn : n < 18446744073709551616) (h1 : 1 ≤ size) (h8 : size ≤ 8) :
    Calls Tryz.prog 41 #[.int .u64 n, .int .i64 size] w (RetBs w (be n size)) := by
  have t1 : decide ((size : Int) < 1) = false := by simp; omega
  have t2 : decide (8 < (size : Int)) = false := by simp; omega
  have hmk := fun w => run_mk tBytes rfl size (by omega) w
  go_enter Tryz.func41, Tryz.ntmps41
  go_wp2
  clear t1 t2 hmk
  go_loopw [0, 6] (fun x i wr => ∃ k : Nat, k ≤ size ∧ i = .int .i64 (k - 1 : Int) ∧ x = .int .u64 ((n / 256 ^ (size - k) : Nat) : Int) ∧ Blk wr w.heap.size 5 (putFrom n size k) ∧ Below w.heap.size w wr) (fun _ i _ => (intOf i + 1).toNat)
  case atStart => exact ⟨size, Nat.le_refl _, by go_num, by simp, by rw [putFrom_all]; exact Blk.new _ _ _, (Below.refl _ _).alloc (Nat.le_refl _) _⟩
  case round =>
    obtain ⟨k, hk, rfl, rfl, hblk, hbel⟩ := hrel
    by_cases hlt : 0 < k
    · obtain ⟨k, rfl⟩ : ∃ j, k = j + 1 := ⟨k - 1, by omega⟩
      have hc := hblk.cell k
      rw [putFrom_at n size (k + 1) k (by omega) (by omega)] at hc
      have hf := hblk.free k
      have HB := Lib.hid hblk; clear hblk
      have HP := Lib.hid (putFrom_set n size k (by omega))
      have hxl := shift_lt n (size - (k + 1)) hn
      have HS := Lib.hid (shift_succ n size k hk)
      have e1 : size - 1 - k = size - (k + 1) := by omega
      have HE := Lib.hid e1; clear e1
      generalize hx : n / 256 ^ (size - (k + 1)) = x at *
      have HX := Lib.hid hx; clear hx
      go_wp2
      go_roundw
      case rel =>
        refine ⟨k, by omega, by go_num, by rw [HS.out], ?_, hbel.setCell (Nat.le_refl _) _⟩
        have h := HB.out.set k (.int .u8 ((x : Int) % 256))
        have h2 := HP.out
        rw [HE.out, HX.out] at h2
        rw [h2] at h
        exact h
      case measure => simp [intOf]
    · obtain rfl : k = 0 := by omega
      go_wp2
      go_ret
      rw [putFrom_zero] at hblk
      exact ⟨_, rfl, by rw [be_length]; exact hblk.own (Nat.le_refl _) hbel (by simp [be_length]) (by simp only [maxLen]; omega)⟩

/-! ### are bytes the same? -/
set_option maxHeartbeats 400000 in
theorem refSame_any (A B : Option Addr) (n m c d : Nat) (a b : List UInt8) (w : World) (ha : Bs w A n c a) (hb : Bs w B m d b) :
    Calls Tryz.prog 15 #[.slice A n c, .slice B m d] w fun e w' => e = .returned (.bool (a == b)) ∧ ∃ k, w' = w.drewN k := by
  have hla := ha.len
  have hlb := hb.len
  have ma := ha.max
  have mb := hb.max
  have ca := ha.cap
  have cb := hb.cap
  by_cases hnm : n = m
  · subst hnm
    have HA := Lib.hid ha; have HB := Lib.hid hb; clear ha hb
    have HLA := Lib.hid hla; have HLB := Lib.hid hlb; clear hla hlb
    have t1 : ((n : Int) != (n : Int)) = false := by simp
    go_enter Tryz.func15, Tryz.ntmps15
    go_wp2
    clear t1
    go_loopw [5] (fun i wr => ∃ k q : Nat, k ≤ n ∧ i = .int .i64 k ∧ wr = w.drewN q ∧ a.take k = b.take k) (fun i _ => n - (intOf i).toNat)
    case atStart => exact ⟨0, 0, Nat.zero_le _, rfl, rfl, rfl⟩
    case round =>
      obtain ⟨k, q, hk, rfl, rfl, hsame⟩ := hrel
      have HSM := Lib.hid hsame; clear hsame
      by_cases hlt : k < n
      · obtain ⟨b1, o1, rfl, hc1⟩ := HA.out.addr (by omega)
        obtain ⟨b2, o2, rfl, hc2⟩ := HB.out.addr (by omega)
        have c1 : w.cell? ⟨b1, o1 + k, none⟩ = some _ := hc1 k hlt
        have c2 : w.cell? ⟨b2, o2 + k, none⟩ = some _ := hc2 k hlt
        have HC1 := Lib.hid hc1; have HC2 := Lib.hid hc2; clear hc1 hc2
        by_cases he : bAt a k = bAt b k
        · have t1 : (bAt a k != bAt b k) = false := by simp [he]
          have HE := Lib.hid he; clear he
          go_wp2
          go_quiet (fail)
          go_wp2
          go_roundw
          case rel => exact ⟨k + 1, _, by omega, by go_num, rfl, take_same (by rw [HLA.out]; exact hlt) (by rw [HLB.out]; exact hlt) HSM.out HE.out⟩
          case measure => simp [intOf]; omega
        · have t1 : (bAt a k != bAt b k) = true := by simpa using he
          have HE := Lib.hid (ne_of_bAt he); clear he
          go_wp2
          go_quiet (fail)
          go_wp2
          go_ret
          exact ⟨ret_bool HE.out.symm, _, World.drewN_drewN _ _ _⟩
      · obtain rfl : k = n := by omega
        have HE : Hid ((a == b) = true) := by
          have h := HSM.out
          rw [List.take_of_length_le (by rw [HLA.out]; omega), List.take_of_length_le (by rw [HLB.out]; omega)] at h
          exact beq_iff_eq.2 h
        go_wp2
        go_ret
        exact ⟨ret_bool HE.out.symm, _, rfl⟩
  · have t1 : ((n : Int) != (m : Int)) = true := by rw [bne_iff_ne]; omega
    have HE : Hid ((a == b) = false) := by
      apply beq_eq_false_iff_ne.2
      rintro rfl
      omega
    clear ha hb
    go_enter Tryz.func15, Tryz.ntmps15
    go_wp2
    go_ret
    exact ⟨ret_bool HE.out.symm, 0, rfl⟩

/-! ### the chapter's example -/
/-! ### every input -/
def putS (n size : Int) : List UInt8 := if 1 ≤ size ∧ size ≤ 8 then be n.toNat size.toNat else []
def getS (l : List UInt8) : Nat := if 1 ≤ l.length ∧ l.length ≤ 8 then getL l else 0
def getF (l : List UInt8) : Int := if 1 ≤ l.length ∧ l.length ≤ 8 then 0 else 4

theorem put_any (n size : Int) (w : World) (h0 : 0 ≤ n) (hn : n < 18446744073709551616) : Calls Tryz.prog 73 #[.int .u64 n, .int .i64 size] w (RetBs w (putS n size)) := by
  unfold putS
  by_cases h : 1 ≤ size ∧ size ≤ 8
  · rw [if_pos h]
    obtain ⟨n, rfl⟩ := Int.eq_ofNat_of_zero_le h0
    obtain ⟨s, rfl⟩ := Int.eq_ofNat_of_zero_le (show 0 ≤ size by omega)
    exact put_yes n s w (by omega) (by omega) (by omega)
  · rw [if_neg h]
    exact put_no n size w (by omega)
theorem get_any (A : Option Addr) (n c : Nat) (l : List UInt8) (w : World) (h : Bs w A n c l) :
    Calls Tryz.prog 37 #[.slice A n c] w fun e w' => e = .returned (.tuple #[.int .u64 (getS l), .int .i64 (getF l)]) ∧ w = w' := by
  unfold getS getF
  rw [h.len]
  by_cases h1 : 1 ≤ n ∧ n ≤ 8
  · rw [if_pos h1, if_pos h1]
    exact get_yes A n c l w h h1.1 h1.2
  · rw [if_neg h1, if_neg h1]
    exact get_no A n c w (by have := h.max; have := h.cap; omega) (by omega)
end Go.Proofs.YtcfbbgbjlgonpaaGreatDoor
