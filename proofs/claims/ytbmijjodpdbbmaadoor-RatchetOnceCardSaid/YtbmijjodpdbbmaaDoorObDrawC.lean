import Derived.Test.YtbmijjodpdbbmaaDoorObDrawS
namespace Go.Proofs.YtbmijjodpdbbmaaDoor
open Go.RowKit Go.Lib
set_option linter.unusedVariables false

def RetSrc (w : World) (seed : List UInt8) (d : Nat) (e : Ending) (w' : World) : Prop :=
  ∃ p A c, e = .returned (.pointer (some ⟨p, 0, none⟩)) ∧ Src w' p A seed.length c seed d ∧ Below w.heap.size w w' ∧ w.heap.size ≤ p ∧ p ≠ 4 ∧ (∀ b o, A = some ⟨b, o, none⟩ → w.heap.size ≤ b)
theorem src_new {w w1 : World} {seed : List UInt8} {A : Option Addr} {k : Nat} (d : Int) (D : Nat) (hd : d = D) (hz : 4 < w.heap.size) (h : Own w w1 5 1 (.slice A seed.length k) seed.length (seed.map u8c)) :
    RetSrc w seed D (.returned (.pointer (some ⟨w1.heap.size, 0, none⟩))) (w1.alloc (.cells #[.slice A seed.length k, .int .i64 d] 99)) := by
  subst hd
  obtain ⟨A', k', e, sl⟩ := h.slice
  cases e
  have hb := (Below.refl w1.heap.size w1).alloc (Nat.le_refl _) (.cells #[.slice A seed.length k, .int .i64 (D : Int)] 99)
  have hs := h.below.size
  refine ⟨w1.heap.size, A, k, rfl, ⟨Blk.new w1 _ _, sl.mono hb, ?_⟩, below_both h.below hb, hs, by omega, ?_⟩
  · intro b o e; subst e; have := (h.1.lt b rfl).2; omega
  · intro b o e; subst e; exact (h.1.lt b rfl).1
theorem new_any (A : Option Addr) (n c : Nat) (seed : List UInt8) (w : World) (h : Bs w A n c seed) (hn : n ≤ 1000) (hz : 4 < w.heap.size) :
    Calls Tryd.prog 34 #[.slice A n c] w (RetSrc w seed 0) := by
  have HH := Lib.hid h; clear h
  go_enter Tryd.func34, Tryd.ntmps34
  go_wp2_with (go_at_call 46; refine (clone_any A n c seed _ HH.out (by omega)).mono ?_; rintro e w1 ⟨v1, rfl, own1⟩; obtain ⟨A1, k1, rfl, sl1⟩ := own1.slice; have O1 := Lib.hid own1; clear own1 sl1)
  go_ret
  exact src_new 0 0 rfl hz O1.out
theorem drawn_any (p : Nat) (A : Option Addr) (n c : Nat) (seed : List UInt8) (d : Nat) (w : World) (h : Src w p A n c seed d) :
    Calls Tryd.prog 40 #[.pointer (some ⟨p, 0, none⟩)] w fun e w' => e = .returned (.int .i64 d) ∧ w = w' := by
  have c1 : w.cell? ⟨p, 1, none⟩ = some (.int .i64 d) := by rw [h.1.cell]; rfl
  clear h
  go_enter Tryd.func40, Tryd.ntmps40
  go_wp2_with fail
  go_ret
  exact ⟨rfl, rfl⟩
theorem nilDrawn (w : World) : Calls Tryd.prog 40 #[.pointer none] w fun e w' => e = .returned (.int .i64 0) ∧ w = w' := by
  go_enter Tryd.func40, Tryd.ntmps40
  go_wp2_with fail
  go_ret
  exact ⟨rfl, rfl⟩
theorem nilDraw (w : World) : Calls Tryd.prog 38 #[.pointer none] w fun e w' => e = .returned (.slice none 0 0) ∧ w = w' := by
  go_enter Tryd.func38, Tryd.ntmps38
  go_wp2_with fail
  go_ret
  exact ⟨rfl, rfl⟩
theorem nilClone (w : World) : Calls Tryd.prog 37 #[.pointer none] w fun e w' => e = .returned (.pointer none) ∧ w = w' := by
  go_enter Tryd.func37, Tryd.ntmps37
  go_wp2_with fail
  go_ret
  exact ⟨rfl, rfl⟩
set_option maxRecDepth 100000 in
set_option maxHeartbeats 1000000 in
theorem srcClone_any (p : Nat) (A : Option Addr) (c : Nat) (seed : List UInt8) (d : Nat) (w : World) (h : Src w p A seed.length c seed d) (hn : seed.length ≤ 1000) (hz : 4 < w.heap.size) :
    Calls Tryd.prog 37 #[.pointer (some ⟨p, 0, none⟩)] w (RetSrc w seed d) := by
  have c0 : w.cell? ⟨p, 0, none⟩ = some (.slice A seed.length c) := by rw [h.1.cell]; rfl
  have c1 : w.cell? ⟨p, 1, none⟩ = some (.int .i64 d) := by rw [h.1.cell]; rfl
  have HS := Lib.hid h; clear h
  go_enter Tryd.func37, Tryd.ntmps37
  go_wp2_with fail
  go_region_held3 (fun w' => w'.cell? ⟨p, 0, none⟩ = some (.slice A seed.length c) ∧ w'.cell? ⟨p, 1, none⟩ = some (.int .i64 d)) (go_keep)
    (first
      | (go_at_call 46; refine (clone_any A _ c seed _ (by exact HS.out.2.1.mono (Below.refl _ _).drew) (by omega)).mono ?_; rintro e w1 ⟨v1, rfl, own1⟩; obtain ⟨A1, k1, rfl, sl1⟩ := own1.slice; have O1 := Lib.hid (own1.base ((Below.refl w.heap.size w).drew)); clear own1 sl1; have e0 := (O1.out.below.cell (p := ⟨p, 0, none⟩) HS.out.1.lt).trans c0; have e1 := (O1.out.below.cell (p := ⟨p, 1, none⟩) HS.out.1.lt).trans c1))
  all_goals
    go_wp2
    go_ret
    exact src_new _ d rfl hz O1.out
end Go.Proofs.YtbmijjodpdbbmaaDoor
