import Derived.Test.YtbmijjodpdbbmaaObImageW
import Derived.Test.YtbmijjodpdbbmaaObTrailW
namespace Go.Proofs.Ytbmijjodpdbbmaa
open Go.RowKit
set_option linter.unusedVariables false

/-! ### one write: the chapter's example -/
set_option maxRecDepth 100000 in
set_option maxHeartbeats 1000000 in
theorem alive20_any (w : World) : Calls Try.prog 8 #[] w fun e w' => e = .returned (.bool true) ∧ Below w.heap.size w w' := by
  go_enter Try.func8, Try.ntmps8
  go_wp2_with fail
  have hb1 : Below w.heap.size w (w.alloc (.cells #[.int .u8 7] 5)) := (Below.refl _ _).alloc (Nat.le_refl _) _
  have hb2 := below_both hb1 ((Below.refl _ (w.alloc (.cells #[.int .u8 7] 5))).alloc (Nat.le_refl _) (.cells #[.int .i64 1, .slice (some ⟨w.heap.size, 0, none⟩) 1 1] 46))
  have hs : Bs (w.alloc (.cells #[.int .u8 7] 5)) (some ⟨w.heap.size, 0, none⟩) 1 1 [7] := by
    refine ⟨rfl, Nat.le_refl _, by simp only [maxLen]; omega, fun _ => ⟨_, _, rfl, fun j u hu => ?_⟩⟩
    rw [Nat.zero_add, (Blk.new w 5 #[.int .u8 7]).cell]
    exact hu
  have hw : Wrs ((w.alloc (.cells #[.int .u8 7] 5)).alloc (.cells #[.int .i64 1, .slice (some ⟨w.heap.size, 0, none⟩) 1 1] 46)) (some ⟨w.heap.size + 1, 0, none⟩) 1 1 [⟨1, ⟨some ⟨w.heap.size, 0, none⟩, 1, 1, [7]⟩⟩] := by
    refine ⟨rfl, ⟨rfl, Nat.le_refl _, by simp only [maxLen]; omega, fun _ => ⟨_, _, rfl, fun j u hu => ?_⟩⟩, fun x hx => ?_⟩
    · have h := (Blk.new (w.alloc (.cells #[.int .u8 7] 5)) 46 #[.int .i64 1, .slice (some ⟨w.heap.size, 0, none⟩) 1 1]).cell j
      have e : (w.alloc (.cells #[.int .u8 7] 5)).heap.size = w.heap.size + 1 := by simp
      rw [e] at h
      rw [Nat.zero_add, h]
      exact hu
    · simp at hx
      subst hx
      exact ⟨hs.mono ((Below.refl _ _).alloc (Nat.le_refl _) _), by show -9223372036854775808 ≤ (1 : Int); omega, by show (1 : Int) ≤ 9223372036854775807; omega⟩
  refine (image_yes _ _ _ _ 2 _ hw (by omega) (by omega) (by intro x hx; simp at hx; subst hx; simp)).mono ?_
  rintro e w1 ⟨A, n, c, L, rfl, hL, hR, hb3⟩
  have hb := below_both hb2 hb3
  clear hb1 hb2 hb3 hs hw
  have hlen : L.length = 2 := by have := congrArg List.length hR; rw [imgTo_len, List.length_map] at this; exact this
  have hn : n = 2 := by have := hL.len; omega
  subst hn
  have hR' : L.map BRow.l = [zeros512, [7]] := hR
  match L, hlen, hR' with
  | [r0, r1], _, hR' =>
    simp only [List.map_cons, List.map_nil, List.cons.injEq, and_true] at hR'
    obtain ⟨q0, q1⟩ := hR'
    obtain ⟨b, o, r, rfl, hr, c0, s0⟩ := hL.row (k := 0) (by omega)
    obtain ⟨b', o', r', hA, hr', c1, s1⟩ := hL.row (k := 1) (by omega)
    simp at hr hr' hA
    subst hr hr'
    obtain ⟨rfl, rfl⟩ := hA
    have l0 : r0.n = 512 := by have := s0.len; rw [q0, zeros512_len] at this; exact this.symm
    have l1 : r1.n = 1 := by have := s1.len; rw [q1] at this; simpa using this.symm
    obtain ⟨b1, o1, ha1, hc1⟩ := s1.addr (by omega)
    have c2 := hc1 0 (by omega)
    rw [q1] at c2
    have c2' : w1.cell? ⟨b1, o1, none⟩ = some (.int .u8 7) := c2
    rw [ha1, l1] at c1
    rw [l0] at c0
    have hcap := hL.1.cap
    have hmax := hL.1.max
    have hcap1 := s1.cap
    rw [l1] at hcap1
    clear hL hR s0 s1 hc1 c2
    simp only [Nat.add_zero] at c0
    go_wp2
    go_ret
    exact ⟨rfl, hb⟩

end Go.Proofs.Ytbmijjodpdbbmaa
