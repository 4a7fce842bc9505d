import Derived.Test.YtbmijjodpdbbmaaDoorObKdfW
import Derived.Test.YtbmijjodpdbbmaaDoorObSmall
namespace Go.Proofs.YtbmijjodpdbbmaaDoor
open Go.RowKit
set_option linter.unusedVariables false

set_option maxRecDepth 100000 in
set_option maxHeartbeats 1000000 in
theorem expand_any (A C : Option Addr) (n c q e : Nat) (k t : List UInt8) (w : World)
    (hk : Bs w A n c k) (ht : Bs w C q e t) (hn : n ≤ 50000) (hq : q ≤ 10000) (hK : ShaK w) :
    Calls Tryd.prog 89 #[.slice A n c, .slice C q e, .int .i64 32] w (fun e w' => ∃ A' : Option Addr, e = .returned (.tuple #[.slice A' 32 32, .int .i64 0]) ∧ Bs w' A' 32 32 (macL k (t ++ [1])) ∧ Below w.heap.size w w') := by
  obtain ⟨M, hM⟩ : ∃ M, M = macL k (t ++ [1]) := ⟨_, rfl⟩
  have hMl : M.length = 32 := by rw [hM, macL_len]
  rw [← hM]
  have HM := Lib.hid hM; have HML := Lib.hid hMl; clear hM hMl
  have HKB := Lib.hid hk; have HT := Lib.hid ht; have HK := Lib.hid hK
  clear hk ht hK
  go_enter Tryd.func89, Tryd.ntmps89
  go_wp2_with fail
  go_step3
  go_wp2_with fail
  go_step3
  go_wp2_with fail
  obtain ⟨W, hW⟩ : ∃ W, W = ((w.alloc (.cells #[.slice A n c] 22)).alloc (.cells #[.slice C q e] 22)).alloc (.cells #[.slice none 0 0] 22) := ⟨_, rfl⟩
  rw [← hW]
  have hBW : Below w.heap.size w W := by rw [hW]; exact (((Below.refl _ _).alloc (Nat.le_refl _) _).alloc (by simp) _).alloc (by simp; omega) _
  have bl : Blk W (w.heap.size + 1 + 1) 22 [.slice none 0 0] := by rw [hW]; have := Blk.new ((w.alloc (.cells #[.slice A n c] 22)).alloc (.cells #[.slice C q e] 22)) 22 #[Value.slice none 0 0]; simpa using this
  have al : ∀ (W : World) o, Below W.heap.size W (W.alloc o) := fun W o => (Below.refl _ _).alloc (Nat.le_refl _) _
  have bk : W.cell? ⟨w.heap.size, 0, none⟩ = some (.slice A n c) := by
    rw [hW, (al _ _).cell (by simp; omega), (al _ _).cell (by simp), (Blk.new w _ _).cell]; rfl
  have bi : W.cell? ⟨w.heap.size + 1, 0, none⟩ = some (.slice C q e) := by
    rw [hW, (al _ _).cell (by simp)]
    simp
  have cl : W.cell? ⟨w.heap.size + 1 + 1, 0, none⟩ = some (.slice none 0 0) := by rw [bl.cell]; rfl
  have BL := Lib.hid bl; have BK := Lib.hid bk; have BI := Lib.hid bi; have CLL := Lib.hid cl; have BW := Lib.hid hBW
  have hzW : W.heap.size = w.heap.size + 3 := by rw [hW]; simp
  have HZ := Lib.hid hzW
  clear hW bl bk bi cl hBW hzW al
  go_loopw [6, 10] (fun v i wr => v = .slice none 0 0 ∧ i = .int .i64 1 ∧ wr = W) (fun _ _ _ => 0)
  case atStart => exact ⟨rfl, rfl, rfl⟩
  case round =>
    obtain ⟨rfl, rfl, rfl⟩ := hrel
    go_wp2_with fail
    refine (expandf_any w.heap.size (w.heap.size + 1 + 1) (w.heap.size + 1) A none C n c 0 0 q e k [] t wr BK.out CLL.out BI.out (HKB.out.mono BW.out) (Sl.nil _ _) (HT.out.mono BW.out) hn (by omega) hq (HK.out.mono BW.out)).mono ?_
    rintro e w2 ⟨v2, rfl, own2⟩
    rw [List.nil_append, ← HM.out, HML.out] at own2
    have b2 : Blk w2 (w.heap.size + 1 + 1) 22 [.slice none 0 0] := (own2.below.block _ (by have := HZ.out; omega)).trans BL.out
    have c2 : w2.cell? ⟨w.heap.size + 1 + 1, 0, none⟩ = some (.slice none 0 0) := by rw [b2.cell]; rfl
    have f2 := b2.free 0
    have B2 := Lib.hid b2; clear b2
    obtain ⟨A2, k2, rfl, sl2⟩ := own2.slice
    have O2 := Lib.hid own2; have S2 := Lib.hid sl2; clear own2 sl2
    have S3 : Hid (Bs (w2.setCell ⟨w.heap.size + 1 + 1, 0, none⟩ (.slice A2 32 k2)) A2 32 k2 M) := by
      refine S2.out.keepB (fun b o e => ?_)
      subst e
      have := (O2.out.1.lt b rfl).1
      have hz := HZ.out
      show (w2.setCell _ _).heap[b]? = _
      exact Below.heap_setCell w2 _ _ b (by show b ≠ w.heap.size + 1 + 1; omega)
    have B3 : Hid (Below w.heap.size w (w2.setCell ⟨w.heap.size + 1 + 1, 0, none⟩ (.slice A2 32 k2))) := (below_both BW.out O2.out.below).setCell (p := ⟨w.heap.size + 1 + 1, 0, none⟩) (by show w.heap.size ≤ w.heap.size + 1 + 1; omega) _
    clear O2
    go_wp2_with (at_builtin; refine wpList_cat rfl (.tmp 23) (.tmp 24) 22 rfl tBytes rfl (Own.nil' B3.out _ _) rfl S3.out (one_bytes _) (by omega) ?_; intro v4 w4 own4; rw [List.nil_append, Nat.zero_add] at own4; obtain ⟨A4, k4, rfl, sl4⟩ := own4.slice; have q4 := sl4.cap; have m4 := sl4.max; have B4 := Lib.hid own4.below; have S4 := Lib.hid sl4; clear own4 sl4)
    rw [Exit.noGoto_ret]
    go_ret2
    refine ⟨A4, rfl, ⟨S4.out.1, Nat.le_refl _, by simp [maxLen], S4.out.2.2.2⟩, B4.out⟩
end Go.Proofs.YtbmijjodpdbbmaaDoor
