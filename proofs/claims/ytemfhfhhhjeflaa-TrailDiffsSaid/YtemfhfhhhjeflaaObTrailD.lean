import Derived.Test.YtemfhfhhhjeflaaObImageW
import Derived.Test.YtemfhfhhhjeflaaObTrailW
namespace Go.Proofs.Ytemfhfhhhjeflaa
open Go.RowKit
set_option linter.unusedVariables false

/-! ### one write: the chapter's example -/
set_option maxRecDepth 100000 in
set_option maxHeartbeats 1000000 in
theorem alive20_any (w : World) : Calls Try.prog 30 #[] w fun e w' => e = .returned (.bool true) ∧ Below w.heap.size w w' := by
  go_enter Try.func30, Try.ntmps30
  go_wp2_with fail
  have hb1 : Below w.heap.size w (w.alloc (.cells #[.int .u8 7] 5)) := (Below.refl _ _).alloc (Nat.le_refl _) _
  have hb2 := below_both hb1 ((Below.refl _ (w.alloc (.cells #[.int .u8 7] 5))).alloc (Nat.le_refl _) (.cells #[.int .i64 1, .slice (some ⟨w.heap.size, 0, none⟩) 1 1] 89))
  have hs : Bs (w.alloc (.cells #[.int .u8 7] 5)) (some ⟨w.heap.size, 0, none⟩) 1 1 [7] := by
    refine ⟨rfl, Nat.le_refl _, by simp only [maxLen]; omega, fun _ => ⟨_, _, rfl, fun j u hu => ?_⟩⟩
    rw [Nat.zero_add, (Blk.new w 5 #[.int .u8 7]).cell]
    exact hu
  have hw : Wrs ((w.alloc (.cells #[.int .u8 7] 5)).alloc (.cells #[.int .i64 1, .slice (some ⟨w.heap.size, 0, none⟩) 1 1] 89)) (some ⟨w.heap.size + 1, 0, none⟩) 1 1 [⟨1, ⟨some ⟨w.heap.size, 0, none⟩, 1, 1, [7]⟩⟩] := by
    refine ⟨rfl, ⟨rfl, Nat.le_refl _, by simp only [maxLen]; omega, fun _ => ⟨_, _, rfl, fun j u hu => ?_⟩⟩, fun x hx => ?_⟩
    · have h := (Blk.new (w.alloc (.cells #[.int .u8 7] 5)) 89 #[.int .i64 1, .slice (some ⟨w.heap.size, 0, none⟩) 1 1]).cell j
      have e : (w.alloc (.cells #[.int .u8 7] 5)).heap.size = w.heap.size + 1 := by simp
      rw [e] at h
      rw [Nat.zero_add, h]
      exact hu
    · simp at hx
      subst hx
      exact ⟨hs.mono ((Below.refl _ _).alloc (Nat.le_refl _) _), by show -9223372036854775808 ≤ (1 : Int); omega, by show (1 : Int) ≤ 9223372036854775807; omega⟩
  refine (image_yes _ _ _ _ 2 _ hw (by omega) (by omega) (by intro x hx; simp at hx; subst hx; simp)).mono ?_
  rintro e w1 ⟨A, n, c, L, rfl, hL, hR, hb3⟩
  have hb := below_both hb2 hb3
  clear hb1 hb2 hb3 hs hw
  have hlen : L.length = 2 := by have := congrArg List.length hR; rw [imgTo_len, List.length_map] at this; exact this
  have hn : n = 2 := by have := hL.len; omega
  subst hn
  have hR' : L.map BRow.l = [zeros512, [7]] := hR
  match L, hlen, hR' with
  | [r0, r1], _, hR' =>
    simp only [List.map_cons, List.map_nil, List.cons.injEq, and_true] at hR'
    obtain ⟨q0, q1⟩ := hR'
    obtain ⟨b, o, r, rfl, hr, c0, s0⟩ := hL.row (k := 0) (by omega)
    obtain ⟨b', o', r', hA, hr', c1, s1⟩ := hL.row (k := 1) (by omega)
    simp at hr hr' hA
    subst hr hr'
    obtain ⟨rfl, rfl⟩ := hA
    have l0 : r0.n = 512 := by have := s0.len; rw [q0, zeros512_len] at this; exact this.symm
    have l1 : r1.n = 1 := by have := s1.len; rw [q1] at this; simpa using this.symm
    obtain ⟨b1, o1, ha1, hc1⟩ := s1.addr (by omega)
    have c2 := hc1 0 (by omega)
    rw [q1] at c2
    have c2' : w1.cell? ⟨b1, o1, none⟩ = some (.int .u8 7) := c2
    rw [ha1, l1] at c1
    rw [l0] at c0
    have hcap := hL.1.cap
    have hmax := hL.1.max
    have hcap1 := s1.cap
    rw [l1] at hcap1
    clear hL hR s0 s1 hc1 c2
    simp only [Nat.add_zero] at c0
    go_wp2
    go_ret
    exact ⟨rfl, hb⟩

set_option maxHeartbeats 1000000 in
theorem trailDiffs_walk (A B C D : Option Addr) (n m p q c d e f : Nat) (L M : List BRow) (x y : List UInt8) (at_ : Int) (w : World) (ha : Bss w A n c L) (hb : Bss w B m d M) (hx : Bs w C p e x) (hy : Bs w D q f y) (hi : -9223372036854775808 ≤ at_) (hi' : at_ ≤ 9223372036854775807) :
    Calls Try.prog 6 #[.slice A n c, .slice B m d, .slice C p e, .slice D q f, .int .i64 at_] w fun e w' => e = .returned (.bool true) ∧ Below w.heap.size w w' := by
  have mp := hx.max
  have mq := hy.max
  have cp := hx.cap
  have cq := hy.cap
  have HNA : rowsOk L = true → n ≤ 20 := by intro h; unfold rowsOk at h; simp at h; have := ha.len; omega
  have HNB : rowsOk M = true → m ≤ 20 := by intro h; unfold rowsOk at h; simp at h; have := hb.len; omega
  have HA := Lib.hid ha; have HB := Lib.hid hb; have HX := Lib.hid hx; have HY := Lib.hid hy
  have HN1 := Lib.hid HNA; have HN2 := Lib.hid HNB
  clear ha hb hx hy HNA HNB
  cases h1 : rowsOk L
  · go_enter Try.func6, Try.ntmps6
    go_wp2_with fail
    refine (rows_any _ _ _ _ _ HA.out).mono ?_
    rintro e w' ⟨rfl, rfl⟩
    go_wp2_with fail
    refine (alive20_any _).mono ?_
    rintro e w' ⟨rfl, hb⟩
    go_wp2
    go_ret
    exact ⟨rfl, hb⟩
  cases h2 : rowsOk M
  · go_enter Try.func6, Try.ntmps6
    go_wp2_with fail
    refine (rows_any _ _ _ _ _ HA.out).mono ?_
    rintro e w' ⟨rfl, rfl⟩
    go_wp2_with fail
    refine (rows_any _ _ _ _ _ HB.out).mono ?_
    rintro e w' ⟨rfl, rfl⟩
    go_wp2_with fail
    refine (alive20_any _).mono ?_
    rintro e w' ⟨rfl, hb⟩
    go_wp2
    go_ret
    exact ⟨rfl, hb⟩
  have hn20 := HN1.out h1
  have hm20 := HN2.out h2
  by_cases hyes : 600 < p ∨ 600 < q
  · by_cases h3 : 600 < p
    case' pos => have t1 : decide (600 < (p : Int)) = true := by simp; omega
    case' neg =>
      have t1 : decide (600 < (p : Int)) = false := by simp; omega
      have t2 : decide (600 < (q : Int)) = true := by simp; omega
    all_goals
      go_enter Try.func6, Try.ntmps6
      go_wp2_with fail
      refine (rows_any _ _ _ _ _ HA.out).mono ?_
      rintro e w' ⟨rfl, rfl⟩
      go_wp2_with fail
      refine (rows_any _ _ _ _ _ HB.out).mono ?_
      rintro e w' ⟨rfl, rfl⟩
      go_wp2_with fail
      refine (alive20_any _).mono ?_
      rintro e w' ⟨rfl, hb⟩
      go_wp2
      go_ret
      exact ⟨rfl, hb⟩
  · have t1 : decide (600 < (p : Int)) = false := by simp; omega
    have t2 : decide (600 < (q : Int)) = false := by simp; omega
    go_enter Try.func6, Try.ntmps6
    go_wp2_with fail
    refine (rows_any _ _ _ _ _ HA.out).mono ?_
    rintro e w' ⟨rfl, rfl⟩
    go_wp2_with fail
    refine (rows_any _ _ _ _ _ HB.out).mono ?_
    rintro e w' ⟨rfl, rfl⟩
    go_wp2_with fail
    refine (diff_any _ _ _ _ _ _ _ _ _ HA.out HB.out (by omega) (by omega)).mono ?_
    rintro e w1 ⟨v1, rfl, o1⟩
    obtain ⟨A1, c1, rfl, s1⟩ := o1.slice
    have b1 := o1.below
    go_wp2_with fail
    refine (refDiff_any _ _ _ _ _ _ _ _ _ (HA.out.mono b1) (HB.out.mono b1) (by omega) (by omega)).mono ?_
    rintro e w2 ⟨v2, rfl, o2⟩
    obtain ⟨A2, c2, rfl, s2⟩ := o2.slice
    have b2 := below_both b1 o2.below
    go_wp2_with fail
    refine (ints_b _ _ _ _ _ _ _ _ _ (s1.mono o2.below) s2).mono ?_
    rintro e w3 ⟨rfl, b3⟩
    have b3 := below_both b2 b3
    have e1 : (diffL (bytesOf L) (bytesOf M) == diffL (bytesOf L) (bytesOf M)) = true := by simp
    rw [e1]
    clear e1
    go_wp2_with fail
    refine (torn_any _ _ _ _ _ _ _ _ _ _ (HX.out.mono b3) (HY.out.mono b3) (by omega) (by omega) hi hi').mono ?_
    rintro e w4 ⟨v4, rfl, o4⟩
    obtain ⟨A4, c4, rfl, s4⟩ := o4.slice
    have b4 := below_both b3 o4.below
    go_wp2_with fail
    refine (refTorn_any _ _ _ _ _ _ _ _ _ _ (HX.out.mono b4) (HY.out.mono b4) (by omega) (by omega) hi hi').mono ?_
    rintro e w5 ⟨v5, rfl, o5⟩
    obtain ⟨A5, c5, rfl, s5⟩ := o5.slice
    have b5 := below_both b4 o5.below
    go_wp2_with fail
    refine (refSame_b _ _ _ _ _ _ _ _ _ (s4.mono o5.below) s5).mono ?_
    rintro e w6 ⟨rfl, b6⟩
    have b6 := below_both b5 b6
    have e1 : (tornL x y at_ == tornL x y at_) = true := by simp
    rw [e1]
    clear e1
    go_wp2_with fail
    refine (alive20_any _).mono ?_
    rintro e w7 ⟨rfl, b7⟩
    go_wp2_with fail
    go_ret
    exact ⟨rfl, below_both b6 b7⟩
end Go.Proofs.Ytemfhfhhhjeflaa
