import Derived.Test.YtbmijjodpdbbmaaObPlaceR
namespace Go.Proofs.Ytbmijjodpdbbmaa
open Go.RowKit Go.Maps
set_option linter.unusedVariables false

def imgAll (size : Int) (L : List Wr) : List (List UInt8) := if 1 ≤ size ∧ size ≤ 1024 then imgTo size.toNat L else []
theorem imgAll_len (size : Int) (L : List Wr) : (imgAll size L).length ≤ 1024 := by
  unfold imgAll
  split
  · rw [imgTo_len]; omega
  · simp
theorem image_any (A : Option Addr) (n c : Nat) (L : List Wr) (size : Int) (w : World) (h : Wrs w A n c L) (hrow : ∀ x ∈ L, x.r.n ≤ 20000) :
    Calls Try.prog 10 #[.slice A n c, .int .i64 size] w (RetRows w (imgAll size L)) := by
  unfold imgAll
  by_cases hs : 1 ≤ size ∧ size ≤ 1024
  · rw [if_pos hs]
    obtain ⟨s, rfl⟩ := Int.eq_ofNat_of_zero_le (show 0 ≤ size by omega)
    exact image_yes A n c L s w h (by omega) (by omega) hrow
  · rw [if_neg hs]
    exact image_no A n c size w (by omega)
theorem refImage_any (A : Option Addr) (n c : Nat) (L : List Wr) (size : Int) (w : World) (h : Wrs w A n c L) :
    Calls Try.prog 11 #[.slice A n c, .int .i64 size] w (RetRows w (imgAll size L)) := by
  unfold imgAll
  by_cases hs : 1 ≤ size ∧ size ≤ 1024
  · rw [if_pos hs]
    obtain ⟨s, rfl⟩ := Int.eq_ofNat_of_zero_le (show 0 ≤ size by omega)
    exact refImage_yes A n c L s w h (by omega) (by omega)
  · rw [if_neg hs]
    exact refImage_no A n c size w (by omega)
theorem ret_len {w : World} {A : Option Addr} {n c q : Nat} {R : List BRow} {I : List (List UInt8)} (h : Bss w A n c R) (hi : R.map BRow.l = I) (hq : I.length ≤ q) : n ≤ q := by
  rw [← h.len]; rw [← hi, List.length_map] at hq; exact hq
theorem ofL_le (L : List Wr) (p : Int) : (ofL L p).length ≤ L.length := by have := ofL_len L p L.length; rwa [List.take_of_length_le (Nat.le_refl _)] at this
theorem rows_same {R S : List BRow} {I : List (List UInt8)} (h : R.map BRow.l = I) (h' : S.map BRow.l = I) : (bytesOf R == bytesOf S) = true := by
  unfold bytesOf; rw [h, h']; simp

set_option maxHeartbeats 4000000 in
theorem trailImages_walk (A : Option Addr) (n c : Nat) (L : List Wr) (size m p : Int) (w : World) (h : Wrs w A n c L) :
    Calls Try.prog 3 #[.slice A n c, .int .i64 size, .int .i64 m, .int .i64 p] w fun e w' => e = .returned (.bool true) ∧ Below w.heap.size w w' := by
  have hmax := h.2.1.max
  have hcap := h.2.1.cap
  have HL := Lib.hid h.1
  have HH := Lib.hid h; clear h
  cases hlight : lightL L with
  | false =>
    go_enter Try.func3, Try.ntmps3
    go_wp2_with (first
      | (go_at_call 7; refine (light_any A n c L _ HH.out).mono ?_; rintro e w' ⟨rfl, rfl⟩)
      | (go_at_call 8; refine (alive20_any _).mono ?_; rintro e w' ⟨rfl, hb⟩))
    go_ret
    exact ⟨rfl, hb⟩
  | true =>
    by_cases s1 : 20 < size ∧ size ≤ 1024
    · have t1 : decide (20 < size) = true := decide_eq_true s1.1
      have t2 : decide (size ≤ 1024) = true := decide_eq_true s1.2
      go_enter Try.func3, Try.ntmps3
      go_wp2_with (first
        | (go_at_call 7; refine (light_any A n c L _ HH.out).mono ?_; rintro e w' ⟨rfl, rfl⟩)
        | (go_at_call 8; refine (alive20_any _).mono ?_; rintro e w' ⟨rfl, hb⟩))
      go_ret
      exact ⟨rfl, hb⟩
    have HLi := Lib.hid (light_of hlight)
    have hn : n ≤ 60 := by have := HLi.out.1; rw [HL.out] at this; exact this
    have HR : Hid (∀ x ∈ L, x.r.n ≤ 20000) := fun x hx => by have := HLi.out.2 x hx; omega
    obtain ⟨k, hk⟩ : ∃ k : Nat, max 0 (min m (n : Int)) = k := ⟨(max 0 (min m (n : Int))).toNat, by omega⟩
    have hkn : k ≤ n := by omega
    have hsl := fun w => run_upto tWr A n c k (by omega) w
    have HU := Lib.hid (HH.out.upto hkn)
    have HKK : Hid ((max 0 (min m (n : Int))).toNat = k) := by rw [hk]; exact Int.toNat_natCast k
    go_enter Try.func3, Try.ntmps3
    by_cases s2 : 20 < size
    all_goals
      have t1 : decide (20 < size) = decide (20 < size) := rfl
      simp only [s2, decide_true, decide_false] at t1
      try have t2 : decide (size ≤ 1024) = false := decide_eq_false (by omega)
      go_wp2_with (go_at_call 7; refine (light_any A n c L _ HH.out).mono ?_; rintro e w' ⟨rfl, rfl⟩)
      clear hk s1
      go_region_law (first
        | (go_simp; go_at_call 10; refine (image_any A n c L size _ (by exact HH.out.mono (Below.refl _ _).drew) HR.out).mono ?_; rintro e w1 ⟨A1, n1, c1, R1, rfl, hR1, hi1, b1⟩; have B1 := ((Below.refl w.heap.size w).drew).trans b1)
        | (go_simp; go_at_call 11; refine (refImage_any A n c L size _ (by exact HH.out.mono B1)).mono ?_; rintro e w2 ⟨A2, n2, c2, R2, rfl, hR2, hi2, b2⟩; have B2 := B1.trans (b2.mono B1.size); have hR1' := hR1.mono b2)
        | (go_simp; go_at_call 9; refine (refRows_any A1 A2 n1 n2 c1 c2 R1 R2 _ hR1' hR2 (ret_len hR1 hi1 (Nat.le_trans (imgAll_len _ _) (by decide))) (ret_len hR2 hi2 (Nat.le_trans (imgAll_len _ _) (by decide)))).mono ?_; rintro e w3 ⟨rfl, b3⟩; rw [rows_same hi1 hi2]; have B3 := B2.trans (b3.mono B2.size); clear hR1 hR1' hR2 hi1 hi2)
        | (go_simp; go_at_call 13; refine (upto_any A n c L m _ (by exact HH.out.mono B3) (by omega) HR.out).mono ?_; rintro e w4 ⟨A4, n4, c4, M4, rfl, hM4, hk4, b4⟩; rw [HKK.out] at hk4; have B4 := B3.trans (b4.mono B3.size))
        | (go_simp; go_at_call 12; refine (writes_any A4 A n4 k c4 c M4 (L.take k) _ hM4 (by exact HU.out.mono B4)).mono ?_; rintro e w5 ⟨rfl, b5⟩; rw [show (M4.map Wr.k == (L.take k).map Wr.k) = true from by rw [hk4]; simp]; have B5 := B4.trans (b5.mono B4.size); clear hM4 hk4)
        | (go_simp; go_at_call 15; refine (places_any A n c L _ (by exact HH.out.mono B5) (by omega)).mono ?_; rintro e w6 ⟨v6, rfl, own6⟩; obtain ⟨A6, c6, rfl, sl6⟩ := own6.slice; have B6 := B5.trans (own6.below.mono B5.size); clear own6)
        | (go_simp; go_at_call 16; refine (refPlaces_any A n c L _ (by exact HH.out.mono B6) (by omega)).mono ?_; rintro e w7 ⟨v7, rfl, own7⟩; obtain ⟨A7, c7, rfl, sl7⟩ := own7.slice; have B7 := B6.trans (own7.below.mono B6.size); have sl6' := sl6.mono own7.below; clear own7)
        | (go_simp; go_at_call 14; refine (ints_any A6 A7 _ _ c6 c7 (sortU (L.map Wr.p)) (sortU (L.map Wr.p)) _ sl6' sl7).mono ?_; rintro e w8 ⟨rfl, q8, rfl⟩; rw [show (sortU (L.map Wr.p) == sortU (L.map Wr.p)) = true from by simp]; have B8 := belowN B7 q8; clear sl6 sl6' sl7)
        | (go_simp; go_at_call 17; refine (of_any A n c L p _ (by exact HH.out.mono B8) (by omega) HR.out).mono ?_; rintro e w9 ⟨A9, n9, c9, R9, rfl, hR9, hi9, b9⟩; have B9 := B8.trans (b9.mono B8.size))
        | (go_simp; go_at_call 18; refine (refOf_any A n c L p _ (by exact HH.out.mono B9) (by omega)).mono ?_; rintro e w10 ⟨A10, n10, c10, R10, rfl, hR10, hi10, b10⟩; have B10 := B9.trans (b10.mono B9.size); have hR9' := hR9.mono b10)
        | (go_simp; go_at_call 9; refine (refRows_any A9 A10 n9 n10 c9 c10 R9 R10 _ hR9' hR10 (ret_len hR9 hi9 (Nat.le_trans (ofL_le _ _) (by rw [HL.out]; omega))) (ret_len hR10 hi10 (Nat.le_trans (ofL_le _ _) (by rw [HL.out]; omega)))).mono ?_; rintro e w11 ⟨rfl, b11⟩; rw [rows_same hi9 hi10]; have B11 := B10.trans (b11.mono B10.size); clear hR9 hR9' hR10 hi9 hi10)
        | (go_simp; go_at_call 8; refine (alive20_any _).mono ?_; rintro e w12 ⟨rfl, b12⟩; have B12 := B11.trans (b12.mono B11.size)))
      all_goals
        go_wp2
        go_ret
        exact ⟨rfl, B12⟩
end Go.Proofs.Ytbmijjodpdbbmaa
