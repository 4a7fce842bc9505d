import Derived.Test.YtbmijjodpdbbmaaDoorObChE
import Derived.Test.YtbmijjodpdbbmaaDoorObRef
namespace Go.Proofs.YtbmijjodpdbbmaaDoor
open Go.RowKit
set_option linter.unusedVariables false

/-! ### the reference's chain of keys -/
theorem chainL_len (l : List UInt8) (k : Nat) : (chainL l k).length = if k = 0 then l.length else 32 := by
  cases k with
  | zero => rfl
  | succ k => exact deriveL_len _ _
set_option maxHeartbeats 1000000 in
theorem refChain_any (A : Option Addr) (n c : Nat) (l : List UInt8) (k : Nat) (w : World) (h : Bs w A n c l) (hn : n ≤ 50000) (hk : k ≤ 1000) :
    Calls Tryd.prog 50 #[.slice A n c, .string ⟨nextS.toArray⟩, .int .i64 (k : Int)] w (RetRd w (chainL l k)) := by
  have hl : l.length = n := h.len
  have HH := Lib.hid h
  have HB : Hid (∀ w : World, Own w (w.alloc (.cells #[] 5)) 5 1 (.slice (some ⟨w.heap.size, 0, none⟩) 0 0) 0 []) := fun w =>
    (Blk.new w 5 #[]).own (Nat.le_refl _) ((Below.refl _ _).alloc (Nat.le_refl _) _) rfl (Nat.zero_le _)
  have HL := Lib.hid hl; clear h hl
  go_enter Tryd.func50, Tryd.ntmps50
  go_wp2_with (at_builtin; refine wpList_cat rfl (.tmp 9) (.tmp 10) 22 rfl tBytes rfl (HB.out w) rfl (HH.out.mono ((Below.refl _ _).alloc (Nat.le_refl _) _)) (one_bytes l) (by omega) ?_; intro v1 w1 o1; have O1 := Lib.hid o1; clear o1)
  go_loopw [7, 8] (fun v i wr => ∃ (j : Nat) (A' : Option Addr) (n' c' : Nat), j ≤ k ∧ i = .int .i64 (j : Int) ∧ v = .slice A' n' c' ∧ n' ≤ 50000 ∧ Bs wr A' n' c' (chainL l j) ∧ Below w.heap.size w wr) (fun _ i _ => k - (intOf i).toNat)
  case atStart =>
    obtain ⟨A1, c1, rfl, s1⟩ := O1.out.slice
    exact ⟨0, A1, _, c1, Nat.zero_le _, rfl, rfl, by omega, by simpa [chainL] using s1, O1.out.below⟩
  case round =>
    obtain ⟨j, A', n', c', hj, rfl, rfl, hn', hs, hb⟩ := hrel
    have HS := Lib.hid hs; have HBW := Lib.hid hb; clear hs hb
    by_cases hlt : j < k
    · have t1 : (j : Int) < k := by omega
      have t2 : (j : Int) < 1000 := by omega
      go_wp2_with fail
      refine (refDerive_any A' n' c' (chainL l j) nextS _ HS.out hn' (by decide)).mono ?_
      rintro e w2 ⟨A2, c2, rfl, s2, b2⟩
      rw [deriveL_len] at s2 ⊢
      have S2 := Lib.hid s2; have B2 := Lib.hid b2; clear s2 b2
      go_wp2_with fail
      go_roundw
      case rel => exact ⟨j + 1, A2, 32, c2, by omega, by go_num, rfl, by omega, S2.out, below_both HBW.out B2.out⟩
      case measure => simp [intOf]; omega
    · obtain rfl : j = k := by omega
      go_wp2_with fail
      go_ret
      have hl := HS.out.len
      exact ⟨A', c', by rw [hl]; rfl, by rw [hl]; exact HS.out, HBW.out⟩
theorem refKey33_any (A : Option Addr) (n c : Nat) (l : List UInt8) (k : Nat) (w : World) (h : Bs w A n c l) (hn : n ≤ 50000) (hk : k ≤ 1000) :
    Calls Tryd.prog 23 #[.slice A n c, .int .i64 (k : Int)] w (RetRd w (deriveL (chainL l k) keyS)) := by
  have HC := Lib.hid (refChain_any A n c l k w h hn hk)
  have hcl : (chainL l k).length ≤ 50000 := by rw [chainL_len]; have := h.len; split <;> omega
  have HCL := Lib.hid hcl
  clear h hcl
  go_enter Tryd.func23, Tryd.ntmps23
  go_wp2_with fail
  refine HC.out.mono ?_
  rintro e w1 ⟨A1, c1, rfl, s1, b1⟩
  have S1 := Lib.hid s1; have B1 := Lib.hid b1; clear s1 b1
  go_wp2_with fail
  refine (refDerive_any A1 _ c1 (chainL l k) keyS _ S1.out HCL.out (by decide)).mono ?_
  rintro e w2 ⟨A2, c2, rfl, s2, b2⟩
  have S2 := Lib.hid s2; have B2 := Lib.hid b2; clear s2 b2
  go_wp2_with fail
  go_ret
  exact ⟨A2, c2, rfl, S2.out, below_both B1.out B2.out⟩
end Go.Proofs.YtbmijjodpdbbmaaDoor
