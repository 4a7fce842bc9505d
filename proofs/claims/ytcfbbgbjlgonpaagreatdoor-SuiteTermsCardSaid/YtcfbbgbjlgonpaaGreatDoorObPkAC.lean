/- Own texts of this claim, one behind the other. No condition. -/
import Derived.Test.YtcfbbgbjlgonpaaGreatDoorObPkAB
import Derived.Laws.BytesArg
import Derived.Laws.CopyOwn
import Derived.StillTailTactics
import Derived.RegionTactic
import Derived.Deep.RegionLaw

/- ObRowsL, ObRowsW: one text. No condition. -/
/- Bytes filled up, and put over others: plain functions on lists of bytes. No condition. -/
namespace Go.Proofs.YtcfbbgbjlgonpaaGreatDoor
set_option linter.unusedVariables false

def padL (l : List UInt8) (size : Nat) : List UInt8 := l.take size ++ List.replicate (size - l.length) 0
theorem padL_length (l : List UInt8) (size : Nat) : (padL l size).length = size := by simp [padL]; omega
def padS (l : List UInt8) (size : Int) : List UInt8 := if 1 ≤ size ∧ size ≤ 65536 then padL l size.toNat else []

/-- The cells when k of the first bytes were written. -/
def padTo (l : List UInt8) (size k : Nat) : List Value := (l.take k).map u8c ++ reps (size - k) (.int .u8 0)
theorem padTo_zero (l : List UInt8) (size : Nat) : padTo l size 0 = reps size (.int .u8 0) := by simp [padTo]
theorem padTo_at (l : List UInt8) (size k : Nat) (h : k < l.length) (h' : k < size) : (padTo l size k)[k]? = some (.int .u8 0) := by
  unfold padTo
  rw [List.getElem?_append_right (by simp; omega)]
  have : k - ((l.take k).map u8c).length = 0 := by simp; omega
  rw [this, reps_at _ (by omega)]
theorem reps_succ (n : Nat) (z : Value) : reps (n + 1) z = z :: reps n z := by simp [reps, List.replicate_succ]
theorem padTo_set (l : List UInt8) (size k : Nat) (h : k < l.length) (h' : k < size) : (padTo l size k).set k (.int .u8 (bAt l k)) = padTo l size (k + 1) := by
  unfold padTo
  have e : size - k = (size - (k + 1)) + 1 := by omega
  rw [List.set_append_right _ _ (by simp; omega), e, reps_succ]
  have : k - ((l.take k).map u8c).length = 0 := by simp; omega
  rw [this, List.set_cons_zero, take_snoc l k h, List.map_append, List.append_assoc]
  rfl
theorem padTo_all (l : List UInt8) (size k : Nat) (h : k = min size l.length) : padTo l size k = (padL l size).map u8c := by
  unfold padTo padL reps
  rw [List.map_append, List.map_replicate]
  have e1 : l.take k = l.take size := by
    rw [h]; by_cases hs : size ≤ l.length
    · rw [Nat.min_eq_left hs]
    · rw [Nat.min_eq_right (by omega), List.take_of_length_le (Nat.le_refl _), List.take_of_length_le (by omega)]
  have e2 : size - k = size - l.length := by omega
  rw [e1, e2]; rfl

end Go.Proofs.YtcfbbgbjlgonpaaGreatDoor
namespace Go.Proofs.YtcfbbgbjlgonpaaGreatDoor
open Go.RowKit
set_option linter.unusedVariables false

/-! ### are bytes the same: the program's -/
theorem run_bytes_string {P : Program} {src e dst : TypeId} (hs : P.underlying src = some (.slice e)) (he : P.underlying e = some (.int .u8)) (hd : P.underlying dst = some .string)
    {w : World} {A : Option Addr} {n c : Nat} {l : List UInt8} (h : Bs w A n c l) : (convert src dst (.slice A n c)).run P w = .ok (.string ⟨l.toArray⟩) w := by
  have hl := h.len
  rcases Nat.eq_zero_or_pos n with hn | hn
  · subst hn
    obtain rfl : l = [] := List.eq_nil_of_length_eq_zero hl
    rw [run_convert_bytes_string w src dst e _ 0 c hs he hd]
    cases A <;> simp [Conv.bytesToString, loadCells] <;> rfl
  · obtain ⟨b, o, rfl, hc⟩ := h.addr hn
    have := run_convert_bytes_arg (P := P) w src e hs he b o n c (l.map fun x => (x.toNat : Int)) (by simpa using hl) (fun i hi => by
      rw [hc i hi]; unfold bAt
      simp [List.getD_eq_getElem?_getD, List.getElem?_eq_getElem (show i < l.length by omega)]) dst hd
    rw [this]
    congr 2
    simp only [strOfNums, List.map_map]
    congr 2
    have : ((fun n : Int => UInt8.ofNat n.toNat) ∘ fun x : UInt8 => (x.toNat : Int)) = id := by funext x; simp
    rw [this, List.map_id]

theorem same_any (A B : Option Addr) (n m c d : Nat) (a b : List UInt8) (w : World) (ha : Bs w A n c a) (hb : Bs w B m d b) :
    Calls Tryz.prog 38 #[.slice A n c, .slice B m d] w fun e w' => e = .returned (.bool (a == b)) ∧ w = w' := by
  have h1 := run_bytes_string Tryz.underlying28 Tryz.underlying5 Tryz.underlying9 ha
  have h2 := run_bytes_string Tryz.underlying28 Tryz.underlying5 Tryz.underlying9 hb
  clear ha hb
  go_enter Tryz.func38, Tryz.ntmps38
  go_wp2
  go_ret
  exact ⟨ret_bool rfl, rfl⟩

/-! ### bytes filled up -/
set_option maxRecDepth 100000 in
set_option maxHeartbeats 400000 in
theorem pad_yes (A : Option Addr) (n c : Nat) (l : List UInt8) (size : Nat) (w : World) (h : Bs w A n c l) (h1 : 1 ≤ size) (h2 : size ≤ 65536) :
    Calls Tryz.prog 47 #[.slice A n c, .int .i64 size] w (RetBs w (padL l size)) := by
  have t1 : decide ((size : Int) < 1) = false := by simp; omega
  have t2 : decide (65536 < (size : Int)) = false := by simp; omega
  have hl := h.len
  have HL := Lib.hid hl; clear hl
  obtain ⟨cs, hcs⟩ : ∃ cs, cs = (l.take size).map u8c := ⟨_, rfl⟩
  have HCS := Lib.hid hcs; clear hcs
  have hcl : cs.length = Nat.min n size := by rw [HCS.out]; simp [HL.out]; exact Nat.min_comm _ _
  have HCL := Lib.hid hcl; clear hcl
  have HH := Lib.hid h; clear h
  have hmk := fun w => run_mk tBytes rfl size (by omega) w
  go_enter Tryz.func47, Tryz.ntmps47
  go_wp2_with (with_reducible refine wpList_copy_splice rfl (.tmp 14) (.tmp 15) 28 28 rfl 5 Tryz.underlying28 (by kernel_rfl) (some ⟨w.heap.size, 0, none⟩) A size size n c rfl rfl w.heap.size 0 (reps size (.int .u8 0)) 5 ?_ cs HCL.out ?_ ?_ ?_ w.heap.size w ?_ (Nat.le_refl _) ?_)
  · exact heap_alloc_new w _
  · intro hpos
    obtain ⟨b, o, rfl, hc⟩ := Sl.addr HH.out (by have := HCL.out; have : Nat.min n size ≤ n := Nat.min_le_left _ _; omega)
    refine ⟨_, rfl, fun j v hv => ?_⟩
    rw [HCS.out, List.map_take] at hv
    have hj : j < size := by
      have := (List.getElem?_eq_some_iff.1 hv).1
      simp at this; omega
    rw [List.getElem?_take_of_lt hj] at hv
    have h := hc j v hv
    have he : (Addr.mk b o none).add j = ⟨b, o + j, none⟩ := by unfold Addr.add; split <;> simp_all
    rw [he, World.cell?_alloc_lt _ _ _ (World.block_lt_of_cell? w _ h)]
    exact h
  · rw [reps_length, HCL.out]; have : Nat.min n size ≤ size := Nat.min_le_right _ _; omega
  · rw [HCS.out]; intro v hv; obtain ⟨x, _, rfl⟩ := List.mem_map.1 hv; rfl
  · exact (Below.refl _ _).alloc (Nat.le_refl _) _
  · intro w2 HG hB
    go_wp2
    go_ret
    have hblk : Blk w2 w.heap.size 5 (padTo l size (min size n)) := by
      have h := HG.out
      rw [HCS.out] at h
      unfold Blk padTo
      have e : splice (reps size (.int .u8 0)) 0 ((l.take size).map u8c) = (l.take (min size n)).map u8c ++ reps (size - min size n) (.int .u8 0) := by
        unfold splice reps
        simp [HL.out]
      rw [e] at h
      exact h
    rw [padTo_all l size _ (by rw [HL.out])] at hblk
    exact ⟨_, rfl, by rw [padL_length]; exact hblk.own (Nat.le_refl _) hB (by simp [padL_length]) (by simp only [maxLen]; omega)⟩

set_option maxRecDepth 100000 in
set_option maxHeartbeats 400000 in
theorem refPad_yes (A : Option Addr) (n c : Nat) (l : List UInt8) (size : Nat) (w : World) (h : Bs w A n c l) (h1 : 1 ≤ size) (h2 : size ≤ 65536) :
    Calls Tryz.prog 39 #[.slice A n c, .int .i64 size] w (RetBs w (padL l size)) := by
  have t1 : decide ((size : Int) < 1) = false := by simp; omega
  have t2 : decide (65536 < (size : Int)) = false := by simp; omega
  have hmk := fun w => run_mk tBytes rfl size (by omega) w
  have hmax := h.max
  have hcap := h.cap
  have HL := Lib.hid h.len
  have HH := Lib.hid h; clear h
  go_enter Tryz.func39, Tryz.ntmps39
  go_wp2
  clear t1 t2 hmk
  go_loopw [6] (fun i wr => ∃ k : Nat, k ≤ size ∧ k ≤ n ∧ i = .int .i64 k ∧ Blk wr w.heap.size 5 (padTo l size k) ∧ Below w.heap.size w wr) (fun i _ => size - (intOf i).toNat)
  case atStart => exact ⟨0, Nat.zero_le _, Nat.zero_le _, rfl, by rw [padTo_zero]; exact Blk.new _ _ _, (Below.refl _ _).alloc (Nat.le_refl _) _⟩
  case round =>
    obtain ⟨k, hk, hk', rfl, hblk, hbel⟩ := hrel
    by_cases hlt : k < size ∧ k < n
    · obtain ⟨hlt, hlt'⟩ := hlt
      obtain ⟨b, o, rfl, hc0⟩ := HH.out.addr (by omega)
      have hc := hbel.cell (p := ⟨b, o + k, none⟩) (World.block_lt_of_cell? w _ (hc0 k hlt'))
      rw [hc0 k hlt'] at hc
      have hc2 := hblk.cell k
      rw [padTo_at l size k (by rw [HL.out]; exact hlt') hlt] at hc2
      have hf := hblk.free k
      have HB := Lib.hid hblk; clear hblk
      have HC0 := Lib.hid hc0; clear hc0
      go_wp2
      go_roundw
      case rel =>
        refine ⟨k + 1, by omega, by omega, by go_num, ?_, hbel.setCell (Nat.le_refl _) _⟩
        have h := HB.out.set k (.int .u8 (bAt l k))
        rw [padTo_set l size k (by rw [HL.out]; exact hlt') hlt] at h
        exact h
      case measure => simp [intOf]; omega
    · have hk2 : k = min size n := by omega
      have HK := Lib.hid hk2; clear hk2
      by_cases h1 : k < size
      all_goals
        go_wp2
        go_ret
        have hblk' := hblk
        rw [padTo_all l size k (by rw [HL.out]; exact HK.out)] at hblk'
        exact ⟨_, rfl, by rw [padL_length]; exact hblk'.own (Nat.le_refl _) hbel (by simp [padL_length]) (by simp only [maxLen]; omega)⟩

/-! ### every input -/
theorem pad_no (A : Option Addr) (n c : Nat) (size : Int) (w : World) (h : size < 1 ∨ 65536 < size) :
    Calls Tryz.prog 47 #[.slice A n c, .int .i64 size] w (RetBs w []) := by
  have fin : RetBs w [] (.returned (.slice none 0 0)) w := ⟨_, rfl, Own.nil _ _ _⟩
  rcases h with h | h
  · have t1 : decide (size < 1) = true := by simpa using h
    go_enter Tryz.func47, Tryz.ntmps47
    go_wp2
    go_ret
    exact fin
  · have t1 : decide (size < 1) = false := by simp; omega
    have t2 : decide (65536 < size) = true := by simpa using h
    go_enter Tryz.func47, Tryz.ntmps47
    go_wp2
    go_ret
    exact fin
theorem pad_any (A : Option Addr) (n c : Nat) (l : List UInt8) (size : Int) (w : World) (h : Bs w A n c l) :
    Calls Tryz.prog 47 #[.slice A n c, .int .i64 size] w (RetBs w (padS l size)) := by
  unfold padS
  by_cases h1 : 1 ≤ size ∧ size ≤ 65536
  · rw [if_pos h1]
    obtain ⟨s, rfl⟩ := Int.eq_ofNat_of_zero_le (show 0 ≤ size by omega)
    exact pad_yes A n c l s w h (by omega) (by omega)
  · rw [if_neg h1]
    exact pad_no A n c size w (by omega)
end Go.Proofs.YtcfbbgbjlgonpaaGreatDoor
