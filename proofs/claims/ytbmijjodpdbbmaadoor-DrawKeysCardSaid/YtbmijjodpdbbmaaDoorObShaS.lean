import Derived.Test.YtbmijjodpdbbmaaDoorObShaB
import Derived.Test.YtbmijjodpdbbmaaDoorObRowsW
namespace Go.Proofs.YtbmijjodpdbbmaaDoor
open Go.RowKit
set_option linter.unusedVariables false

/-! ### what fills up -/
def padZ (n : Nat) : Nat := (119 - n % 64) % 64
def padB (n : Nat) : List UInt8 := 128 :: (List.replicate (padZ n) 0 ++ be (n * 8) 8)
theorem padB_len (n : Nat) : (padB n).length = padZ n + 9 := by simp [padB, be_length]
theorem padZ_lt (n : Nat) : padZ n < 64 := Nat.mod_lt _ (by decide)
theorem pad_whole (n : Nat) : (n + (padZ n + 9)) % 64 = 0 := by unfold padZ; omega
theorem run_mk2 {P : Program} {t e : TypeId} {z : Value} {bytes : Nat} (ht : ElemT P t e z 1 bytes) (hz1 : z.cells = #[z]) (n c : Nat) (hnc : n ≤ c) (h : c * bytes ≤ 281474976710656) (w : World) :
    (Instr.makeSlice t (.int .i64 (n : Int)) (.int .i64 (c : Int))).run P w = .ok (.slice (some ⟨w.heap.size, 0, none⟩) n c) (w.alloc (.cells (reps c z).toArray e)) := by
  obtain ⟨i, hi, hz, hsz, hby⟩ := info_parts ht.info
  have hb := ht.bpos
  have hn : c ≤ c * bytes := Nat.le_mul_of_pos_right _ hb
  have hr := run_make (P := P) w t e i z ht.und hi hz .i64 .i64 n c (by omega) (by omega) (by rw [hby, Int.mul_comm]; omega) (by omega)
  simp only [Int.toNat_natCast, hsz, Nat.mul_one] at hr
  rw [hr]
  have hc : madeCells z.cells c = (reps c z).toArray := by
    unfold madeCells reps
    rw [hz1]
    apply Array.ext
    · simp
    · intro j hj1 hj2
      simp only [Array.getElem_map, Array.getElem_range, List.getElem_toArray, List.getElem_replicate]
      have : (#[z] : Array Value).size = 1 := rfl
      rw [this, Nat.mod_one]; rfl
  rw [hc]

set_option maxHeartbeats 1000000 in
theorem shaPad_any (n : Nat) (w : World) (hn : n ≤ 1099511627776) :
    Calls Tryd.prog 165 #[.int .i64 (n : Int)] w (RetBs w (padB n)) := by
  obtain ⟨z, hz⟩ : ∃ z, padZ n = z := ⟨_, rfl⟩
  have hz64 : z < 64 := by rw [← hz]; exact padZ_lt n
  have r1 : (119 - (n : Int) % 64) % 64 = (z : Int) := by rw [← hz]; unfold padZ; omega
  have hmk : ∀ w : World, (Instr.makeSlice 22 (.int .i64 (1 + (z : Int))) (.int .i64 (1 + (z : Int) + 8))).run Tryd.prog w = .ok (.slice (some ⟨w.heap.size, 0, none⟩) (1 + z) (1 + z + 8)) (w.alloc (.cells (reps (1 + z + 8) (.int .u8 0)).toArray 5)) := fun w => by
    have := run_mk2 (P := Tryd.prog) tBytes rfl (1 + z) (1 + z + 8) (by omega) (by omega) w
    simpa using this
  obtain ⟨wl, hwl⟩ : ∃ wl, wl = w.alloc (.cells ((reps (1 + z + 8) (.int .u8 0)).set 0 (.int .u8 128)).toArray 5) := ⟨_, rfl⟩
  have hb : Blk wl w.heap.size 5 ((reps (1 + z + 8) (.int .u8 0)).set 0 (.int .u8 128)) := by rw [hwl]; exact Blk.new w _ _
  have hbl : Below w.heap.size w wl := by rw [hwl]; exact (Below.refl _ _).alloc (Nat.le_refl _) _
  have HOW : Hid (Own w wl 5 1 (.slice (some ⟨w.heap.size, 0, none⟩) (1 + z) (1 + z + 8)) (1 + z) ((128 :: List.replicate z 0 : List UInt8).map u8c)) := by
    refine ⟨⟨by simp; omega, .inr ⟨w.heap.size, 1 + z + 8, ((reps (1 + z + 8) (.int .u8 0)).set 0 (.int .u8 128)).toArray, rfl, Nat.le_refl _, hb, by omega, by simp only [maxLen]; omega, by simp [reps], ?_⟩⟩, hbl⟩
    obtain ⟨q, hq⟩ : ∃ q, z + 8 = q := ⟨_, rfl⟩
    rw [show 1 + z + 8 = q + 1 by omega]
    simp only [reps, List.replicate_succ, List.set_cons_zero, Nat.mul_one]
    rw [show 1 + z = z + 1 by omega, List.take_succ_cons, List.take_replicate, Nat.min_eq_left (by omega)]
    simp [u8c]
  have HWL := Lib.hid hwl
  have HPB : Hid (padB n = (128 :: List.replicate z 0) ++ be (n * 8) 8) := by rw [← hz]; exact rfl
  have HLB := Lib.hid (be_length 8 (n * 8))
  have r2 : IntKind.u64.wrap ((n : Int)) = (n : Int) := wrap_u64 (by omega) (by omega)
  have HP : Hid (Calls Tryd.prog 88 #[.int .u64 ((n : Int) * 8), .int .i64 8] wl (RetBs wl (be (n * 8) 8))) := by
    have := put_yes (n * 8) 8 wl (by omega) (by omega) (by omega)
    rw [Int.natCast_mul] at this
    exact this
  clear hwl hb hbl hz
  go_enter Tryd.func165, Tryd.ntmps165
  go_wp2_with fail
  rw [← HWL.out]
  refine HP.out.mono ?_
  rintro e w1 ⟨v1, rfl, o1⟩
  obtain ⟨A1, k1, rfl, s1⟩ := o1.slice
  have HO := Lib.hid (HOW.out.mono o1.below)
  have HS1 := Lib.hid s1
  clear o1 s1
  have hl8 : (be (n * 8) 8).length ≤ 8 := by rw [HLB.out]; omega
  go_wp2_with (at_builtin; refine wpList_cat rfl (.tmp 23) (.tmp 27) 22 rfl tBytes rfl HO.out rfl HS1.out (one_bytes _) (by omega) ?_; intro v2 w2 o2)
  go_ret
  refine ⟨_, rfl, ?_⟩
  rw [HPB.out, List.map_append, List.length_append]
  have h := o2
  rw [show (128 :: List.replicate z 0 : List UInt8).length = 1 + z by simp; omega]
  exact h
end Go.Proofs.YtbmijjodpdbbmaaDoor
