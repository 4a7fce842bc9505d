import Derived.Test.YtemfhfhhhjeflaaDoorObNumW
import Derived.Test.YtemfhfhhhjeflaaDoorObRowsL
import Derived.Laws.BytesArg
import Derived.Laws.CopyOwn
import Derived.StillTailTactics
import Derived.RegionTactic
import Derived.Deep.RegionLaw
namespace Go.Proofs.YtemfhfhhhjeflaaDoor
open Go.RowKit
set_option linter.unusedVariables false

/-! ### are bytes the same: the program's -/
theorem run_bytes_string {P : Program} {src e dst : TypeId} (hs : P.underlying src = some (.slice e)) (he : P.underlying e = some (.int .u8)) (hd : P.underlying dst = some .string)
    {w : World} {A : Option Addr} {n c : Nat} {l : List UInt8} (h : Bs w A n c l) : (convert src dst (.slice A n c)).run P w = .ok (.string ⟨l.toArray⟩) w := by
  have hl := h.len
  rcases Nat.eq_zero_or_pos n with hn | hn
  · subst hn
    obtain rfl : l = [] := List.eq_nil_of_length_eq_zero hl
    rw [run_convert_bytes_string w src dst e _ 0 c hs he hd]
    cases A <;> simp [Conv.bytesToString, loadCells] <;> rfl
  · obtain ⟨b, o, rfl, hc⟩ := h.addr hn
    have := run_convert_bytes_arg (P := P) w src e hs he b o n c (l.map fun x => (x.toNat : Int)) (by simpa using hl) (fun i hi => by
      rw [hc i hi]; unfold bAt
      simp [List.getD_eq_getElem?_getD, List.getElem?_eq_getElem (show i < l.length by omega)]) dst hd
    rw [this]
    congr 2
    simp only [strOfNums, List.map_map]
    congr 2
    have : ((fun n : Int => UInt8.ofNat n.toNat) ∘ fun x : UInt8 => (x.toNat : Int)) = id := by funext x; simp
    rw [this, List.map_id]

theorem same_any (A B : Option Addr) (n m c d : Nat) (a b : List UInt8) (w : World) (ha : Bs w A n c a) (hb : Bs w B m d b) :
    Calls Tryd.prog 16 #[.slice A n c, .slice B m d] w fun e w' => e = .returned (.bool (a == b)) ∧ w = w' := by
  have h1 := run_bytes_string Tryd.underlying29 Tryd.underlying5 Tryd.underlying9 ha
  have h2 := run_bytes_string Tryd.underlying29 Tryd.underlying5 Tryd.underlying9 hb
  clear ha hb
  go_enter Tryd.func16, Tryd.ntmps16
  go_wp2
  go_ret
  exact ⟨ret_bool rfl, rfl⟩

/-! ### bytes filled up -/
set_option maxHeartbeats 400000 in
theorem xor_any (A B : Option Addr) (n m c d : Nat) (a b : List UInt8) (w : World) (ha : Bs w A n c a) (hb : Bs w B m d b) (hn : n ≤ 1048576) :
    Calls Tryd.prog 15 #[.slice A n c, .slice B m d] w (RetBs w (xorL a b)) := by
  have hla := ha.len
  have hlb := hb.len
  have ma := ha.max
  have mb := hb.max
  have ca := ha.cap
  have cb := hb.cap
  obtain ⟨s, hs⟩ : ∃ s, s = min n m := ⟨_, rfl⟩
  have hs1 : s ≤ n := by omega
  have hs2 : s ≤ m := by omega
  have hxl : (xorL a b).length = s := by rw [xorL_length, hla, hlb, hs]
  have HXL := Lib.hid hxl; clear hxl
  have HS := Lib.hid hs; clear hs
  rcases Nat.lt_or_ge m n with hmn | hmn
  case' inl => obtain rfl : s = m := by have := HS.out; omega
  case' inr => obtain rfl : s = n := by have := HS.out; omega
  all_goals
    have hmk := fun w => run_mk tBytes rfl s (by omega) w
    have HA := Lib.hid ha; have HB := Lib.hid hb; clear ha hb
    have HLA := Lib.hid hla; have HLB := Lib.hid hlb; clear hla hlb
    go_enter Tryd.func15, Tryd.ntmps15
    go_wp2
    clear hmk
    go_loopw [15] (fun i wr => ∃ k : Nat, k ≤ s ∧ i = .int .i64 k ∧ Blk wr w.heap.size 5 (padTo (xorL a b) s k) ∧ Below w.heap.size w wr) (fun i _ => s - (intOf i).toNat)
    case atStart => exact ⟨0, Nat.zero_le _, rfl, by rw [padTo_zero]; exact Blk.new _ _ _, (Below.refl _ _).alloc (Nat.le_refl _) _⟩
    case round =>
      obtain ⟨k, hk, rfl, hblk, hbel⟩ := hrel
      by_cases hlt : k < s
      · obtain ⟨b1, o1, rfl, hc1⟩ := HA.out.addr (by omega)
        obtain ⟨b2, o2, rfl, hc2⟩ := HB.out.addr (by omega)
        have c1 := hbel.cell (p := ⟨b1, o1 + k, none⟩) (World.block_lt_of_cell? w _ (hc1 k (by omega)))
        rw [hc1 k (by omega)] at c1
        have c2 := hbel.cell (p := ⟨b2, o2 + k, none⟩) (World.block_lt_of_cell? w _ (hc2 k (by omega)))
        rw [hc2 k (by omega)] at c2
        have c3 := hblk.cell k
        rw [padTo_at _ s k (by rw [HXL.out]; exact hlt) hlt] at c3
        have hf := hblk.free k
        have HBk := Lib.hid hblk; clear hblk
        have HC1 := Lib.hid hc1; have HC2 := Lib.hid hc2; clear hc1 hc2
        try have i1 : (k : Int) < n := by omega
        try have i2 : (k : Int) < m := by omega
        have i3 : (k : Int) < s := by omega
        have HX := Lib.hid (xor_byte a b k (by rw [HLA.out]; omega) (by rw [HLB.out]; omega))
        go_wp2
        go_region
        go_wp2
        go_roundw
        case rel =>
          refine ⟨k + 1, by omega, by go_num, ?_, (hbel.setCell (Nat.le_refl _) _).drew⟩
          have h := HBk.out.set k (.int .u8 (bAt (xorL a b) k))
          rw [padTo_set _ s k (by rw [HXL.out]; exact hlt) hlt, ← HX.out] at h
          exact h
        case measure => simp [intOf]; omega
      · obtain rfl : k = s := by omega
        go_wp2
        go_ret
        rw [padTo_all _ k k (by rw [HXL.out]; omega)] at hblk
        have e : padL (xorL a b) k = xorL a b := by simp [padL, HXL.out]; rw [List.take_of_length_le (by rw [HXL.out]; omega)]
        rw [e] at hblk
        exact ⟨_, rfl, by rw [HXL.out]; exact hblk.own (Nat.le_refl _) hbel (by simp [HXL.out]) (by simp only [maxLen]; omega)⟩

/-! ### every input -/
end Go.Proofs.YtemfhfhhhjeflaaDoor
