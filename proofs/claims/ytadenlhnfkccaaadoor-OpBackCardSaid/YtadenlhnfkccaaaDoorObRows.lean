/- ObRowsL, ObRowsW: one text. No condition. -/
import Derived.Test.YtadenlhnfkccaaaDoorObNum
import Derived.Laws.BytesArg
import Derived.Laws.CopyOwn
import Derived.StillTailTactics
import Derived.RegionTactic
import Derived.Deep.RegionLaw
/- Bytes filled up, and put over others: plain functions on lists of bytes. No condition. -/
namespace Go.Proofs.YtadenlhnfkccaaaDoor
set_option linter.unusedVariables false

def padL (l : List UInt8) (size : Nat) : List UInt8 := l.take size ++ List.replicate (size - l.length) 0
theorem padL_length (l : List UInt8) (size : Nat) : (padL l size).length = size := by simp [padL]; omega
def padS (l : List UInt8) (size : Int) : List UInt8 := if 1 ≤ size ∧ size ≤ 65536 then padL l size.toNat else []

/-- The cells when k of the first bytes were written. -/
def padTo (l : List UInt8) (size k : Nat) : List Value := (l.take k).map u8c ++ reps (size - k) (.int .u8 0)
theorem padTo_zero (l : List UInt8) (size : Nat) : padTo l size 0 = reps size (.int .u8 0) := by simp [padTo]
theorem padTo_length (l : List UInt8) (size k : Nat) (h : k ≤ l.length) (h' : k ≤ size) : (padTo l size k).length = size := by simp [padTo, reps_length]; omega
theorem padTo_at (l : List UInt8) (size k : Nat) (h : k < l.length) (h' : k < size) : (padTo l size k)[k]? = some (.int .u8 0) := by
  unfold padTo
  rw [List.getElem?_append_right (by simp; omega)]
  have : k - ((l.take k).map u8c).length = 0 := by simp; omega
  rw [this, reps_at _ (by omega)]
theorem reps_succ (n : Nat) (z : Value) : reps (n + 1) z = z :: reps n z := by simp [reps, List.replicate_succ]
theorem u8c_bAt (l : List UInt8) (k : Nat) : u8c (l.getD k 0) = .int .u8 (bAt l k) := rfl
theorem padTo_set (l : List UInt8) (size k : Nat) (h : k < l.length) (h' : k < size) : (padTo l size k).set k (.int .u8 (bAt l k)) = padTo l size (k + 1) := by
  unfold padTo
  have e : size - k = (size - (k + 1)) + 1 := by omega
  rw [List.set_append_right _ _ (by simp; omega), e, reps_succ]
  have : k - ((l.take k).map u8c).length = 0 := by simp; omega
  rw [this, List.set_cons_zero, take_snoc l k h, List.map_append, List.append_assoc]
  rfl
theorem padTo_all (l : List UInt8) (size k : Nat) (h : k = min size l.length) : padTo l size k = (padL l size).map u8c := by
  unfold padTo padL reps
  rw [List.map_append, List.map_replicate]
  have e1 : l.take k = l.take size := by
    rw [h]; by_cases hs : size ≤ l.length
    · rw [Nat.min_eq_left hs]
    · rw [Nat.min_eq_right (by omega), List.take_of_length_le (Nat.le_refl _), List.take_of_length_le (by omega)]
  have e2 : size - k = size - l.length := by omega
  rw [e1, e2]; rfl

def xorL (a b : List UInt8) : List UInt8 := List.zipWith (· ^^^ ·) a b
theorem xorL_length (a b : List UInt8) : (xorL a b).length = min a.length b.length := by simp [xorL]
theorem xorL_at (a b : List UInt8) (k : Nat) (ha : k < a.length) (hb : k < b.length) : (xorL a b).getD k 0 = a.getD k 0 ^^^ b.getD k 0 := by
  unfold xorL
  rw [List.getD_eq_getElem?_getD, List.getElem?_zipWith, List.getElem?_eq_getElem ha, List.getElem?_eq_getElem hb]
  simp [ha, hb]
theorem xor_byte (a b : List UInt8) (k : Nat) (ha : k < a.length) (hb : k < b.length) : bits .xor .u8 (bAt a k) (bAt b k) = bAt (xorL a b) k := by
  unfold bAt
  rw [xorL_at a b k ha hb, UInt8.toNat_xor]
  exact u8_xor _ _ (UInt8.toNat_lt _) (UInt8.toNat_lt _)
theorem xorL_twice (a b : List UInt8) (h : a.length ≤ b.length) : xorL (xorL a b) b = a := by
  induction a generalizing b with
  | nil => simp [xorL]
  | cons x a ih =>
    cases b with
    | nil => simp at h
    | cons y b =>
      simp only [xorL, List.zipWith_cons_cons] at ih ⊢
      rw [ih b (by simpa using h), UInt8.xor_assoc, UInt8.xor_self, UInt8.xor_zero]
theorem map_take_cell (l : List UInt8) (k : Nat) (h : k < l.length) : (l.take (k + 1)).map u8c = (l.take k).map u8c ++ [.int .u8 (bAt l k)] := by
  rw [take_snoc l k h, List.map_append]; rfl
end Go.Proofs.YtadenlhnfkccaaaDoor
namespace Go.Proofs.YtadenlhnfkccaaaDoor
open Go.RowKit
set_option linter.unusedVariables false

/-! ### are bytes the same: the program's -/
theorem run_bytes_string {P : Program} {src e dst : TypeId} (hs : P.underlying src = some (.slice e)) (he : P.underlying e = some (.int .u8)) (hd : P.underlying dst = some .string)
    {w : World} {A : Option Addr} {n c : Nat} {l : List UInt8} (h : Bs w A n c l) : (convert src dst (.slice A n c)).run P w = .ok (.string ⟨l.toArray⟩) w := by
  have hl := h.len
  rcases Nat.eq_zero_or_pos n with hn | hn
  · subst hn
    obtain rfl : l = [] := List.eq_nil_of_length_eq_zero hl
    rw [run_convert_bytes_string w src dst e _ 0 c hs he hd]
    cases A <;> simp [Conv.bytesToString, loadCells] <;> rfl
  · obtain ⟨b, o, rfl, hc⟩ := h.addr hn
    have := run_convert_bytes_arg (P := P) w src e hs he b o n c (l.map fun x => (x.toNat : Int)) (by simpa using hl) (fun i hi => by
      rw [hc i hi]; unfold bAt
      simp [List.getD_eq_getElem?_getD, List.getElem?_eq_getElem (show i < l.length by omega)]) dst hd
    rw [this]
    congr 2
    simp only [strOfNums, List.map_map]
    congr 2
    have : ((fun n : Int => UInt8.ofNat n.toNat) ∘ fun x : UInt8 => (x.toNat : Int)) = id := by funext x; simp
    rw [this, List.map_id]

theorem same_any (A B : Option Addr) (n m c d : Nat) (a b : List UInt8) (w : World) (ha : Bs w A n c a) (hb : Bs w B m d b) :
    Calls Tryd.prog 58 #[.slice A n c, .slice B m d] w fun e w' => e = .returned (.bool (a == b)) ∧ w = w' := by
  have h1 := run_bytes_string Tryd.underlying22 Tryd.underlying5 Tryd.underlying9 ha
  have h2 := run_bytes_string Tryd.underlying22 Tryd.underlying5 Tryd.underlying9 hb
  clear ha hb
  go_enter Tryd.func58, Tryd.ntmps58
  go_wp2
  go_ret
  exact ⟨ret_bool rfl, rfl⟩

/-! ### bytes filled up -/
/-! ### every input -/
end Go.Proofs.YtadenlhnfkccaaaDoor
