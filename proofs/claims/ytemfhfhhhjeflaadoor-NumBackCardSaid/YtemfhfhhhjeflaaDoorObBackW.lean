import Derived.Test.YtemfhfhhhjeflaaDoorObDigP
namespace Go.Proofs.YtemfhfhhhjeflaaDoor
open Go.RowKit
set_option linter.unusedVariables false

theorem print_short (k : Int) (h0 : 0 ≤ k) (h1 : k < 288230376151711744) : (printL k).length ≤ 18 := by
  have h := (parse_print k h0 h1).2
  rcases Nat.lt_or_ge 18 (printL k).length with h2 | h2
  · have hb := bad_of (printL k) (.inr (.inl h2))
    unfold parseF at h
    rw [if_pos hb] at h
    exact absurd h (by decide)
  · exact h2

set_option maxHeartbeats 1000000 in
theorem numBack_walk (x k : Int) (A B : Option Addr) (n m c d : Nat) (a b : List UInt8) (w : World) (x0 : 0 ≤ x) (x1 : x < 18446744073709551616) (k0 : -9223372036854775808 ≤ k) (k1 : k ≤ 9223372036854775807) (ha : Bs w A n c a) (hb : Bs w B m d b) (ht : Pow10 w) :
    Calls Tryd.prog 4 #[.int .u64 x, .int .i64 k, .slice A n c, .slice B m d] w fun e w' => e = .returned (.bool true) ∧ Below w.heap.size w w' := by
  have HT := Lib.hid ht; clear ht
  have ma := ha.max
  have mb := hb.max
  have ca := ha.cap
  have cb := hb.cap
  have HA := Lib.hid ha; have HB := Lib.hid hb; clear ha hb
  by_cases hbig : 300 < n ∨ 300 < m
  · by_cases h1 : 300 < n
    · have t1 : decide (300 < (n : Int)) = true := by simp; omega
      clear hbig
      go_enter Tryd.func4, Tryd.ntmps4
      go_wp2_with (go_at_call 8; refine (alive_any _).mono ?_; rintro e w' ⟨rfl, hb⟩)
      go_ret
      exact ⟨rfl, hb⟩
    · have t1 : decide (300 < (n : Int)) = false := by simp; omega
      have t2 : decide (300 < (m : Int)) = true := by simp; omega
      clear hbig
      go_enter Tryd.func4, Tryd.ntmps4
      go_wp2_with (go_at_call 8; refine (alive_any _).mono ?_; rintro e w' ⟨rfl, hb⟩)
      go_ret
      exact ⟨rfl, hb⟩
  have t1 : decide (300 < (n : Int)) = false := by simp; omega
  have t2 : decide (300 < (m : Int)) = false := by simp; omega
  obtain ⟨x, rfl⟩ := Int.eq_ofNat_of_zero_le x0
  have hx : getL (be x 8) = x := getL_be 8 x (by have : (256 : Nat) ^ 8 = 18446744073709551616 := by decide
                                                 omega)
  have HX := Lib.hid hx; clear hx
  have HLA := Lib.hid HA.out.len; have HLB := Lib.hid HB.out.len
  have t9 : (((xorL a b).length : Int) == min (n : Int) (m : Int)) = true := by
    rw [beq_iff_eq, xorL_length, HLA.out, HLB.out]; omega
  have HNM : Hid (n ≤ 300 ∧ m ≤ 300) := ⟨by omega, by omega⟩
  go_enter Tryd.func4, Tryd.ntmps4
  go_wp2_with fail
  refine (put_yes x 8 _ (by omega) (by decide) (by decide)).mono ?_
  rintro e w1 ⟨v, rfl, hown⟩
  obtain ⟨A1, c1, rfl, hs1⟩ := hown.slice
  have b1 := hown.below
  rw [be_length] at hs1
  rw [be_length]
  go_wp2_with fail
  refine (get_yes A1 8 c1 (be x 8) _ hs1 (by decide) (by decide)).mono ?_
  rintro e w2 ⟨rfl, rfl⟩
  rw [HX.out]
  clear hs1 hown
  have t3 : ((x : Int) != (x : Int)) = false := by simp
  by_cases hk : 0 ≤ k ∧ k < 288230376151711744
  · have t4 : decide (0 ≤ k) = true := decide_eq_true hk.1
    have t5 : decide (k < 288230376151711744) = true := decide_eq_true hk.2
    have HP := Lib.hid (parse_print k hk.1 hk.2)
    have HSH := Lib.hid (print_short k hk.1 hk.2)
    have HPW := Lib.hid (HT.out.mono b1)
    clear hk
    go_wp2_with fail
    refine (print_any k _ k0 k1 HPW.out).mono ?_
    rintro e w2 ⟨rfl, b2⟩
    go_wp2_with fail
    refine (parse_any _ (printL k) k _ rfl (by have := HSH.out; show (printL k).length ≤ 100; omega)).mono ?_
    rintro e w3 ⟨rfl, b3⟩
    rw [HP.out.1, HP.out.2]
    have t6 : (k != k) = false := by simp
    have b2' := b1.trans (b2.mono b1.size)
    have b4 := b2'.trans (b3.mono b2'.size)
    clear b1 b2 b3 b2'
    go_wp2_with fail
    refine (xor_any A B n m c d a b _ (HA.out.mono b4) (HB.out.mono b4) (by have := HNM.out; omega)).mono ?_
    rintro e w3 ⟨v3, rfl, own3⟩
    obtain ⟨A3, c3, rfl, hs3⟩ := own3.slice
    have b3 := (b4).trans (own3.below.mono (b4).size)
    have mx3 := Sl.max hs3
    have cp3 := Sl.cap hs3
    by_cases hnm : m < n
    · have t8 : decide ((m : Int) < (n : Int)) = true := by simp; omega
      clear own3 hs3
      go_wp2_with (go_at_call 8; refine (alive_any _).mono ?_; rintro e w' ⟨rfl, hb⟩)
      go_ret
      exact ⟨rfl, b3.trans (hb.mono b3.size)⟩
    · have t8 : decide ((m : Int) < (n : Int)) = false := by simp; omega
      clear own3
      go_wp2_with fail
      refine (xor_any A3 B _ m c3 d (xorL a b) b w3 hs3 (HB.out.mono b3) (by have := HNM.out; rw [xorL_length, HLA.out, HLB.out]; omega)).mono ?_
      rintro e w4 ⟨v4, rfl, own4⟩
      obtain ⟨A4, c4, rfl, hs4⟩ := own4.slice
      have b4 := b3.trans (own4.below.mono b3.size)
      rw [xorL_twice a b (by rw [HLA.out, HLB.out]; omega)] at hs4
      rw [xorL_twice a b (by rw [HLA.out, HLB.out]; omega)]
      clear own4 hs3 mx3 cp3
      go_wp2_with fail
      refine (same_any A4 A a.length n c4 c a a w4 hs4 (HA.out.mono b4)).mono ?_
      rintro e w5 ⟨rfl, rfl⟩
      have t10 : (a == a) = true := by simp
      go_wp2_with (go_at_call 8; refine (alive_any _).mono ?_; rintro e w' ⟨rfl, hb⟩)
      go_ret
      exact ⟨rfl, b4.trans (hb.mono b4.size)⟩
  · clear HT
    by_cases hk0 : 0 ≤ k
    · have t4 : decide (0 ≤ k) = true := decide_eq_true hk0
      have t5 : decide (k < 288230376151711744) = false := decide_eq_false (by omega)
      clear hk
      go_wp2_with fail
      refine (xor_any A B n m c d a b _ (HA.out.mono b1) (HB.out.mono b1) (by have := HNM.out; omega)).mono ?_
      rintro e w3 ⟨v3, rfl, own3⟩
      obtain ⟨A3, c3, rfl, hs3⟩ := own3.slice
      have b3 := (b1).trans (own3.below.mono (b1).size)
      have mx3 := Sl.max hs3
      have cp3 := Sl.cap hs3
      by_cases hnm : m < n
      · have t8 : decide ((m : Int) < (n : Int)) = true := by simp; omega
        clear own3 hs3
        go_wp2_with (go_at_call 8; refine (alive_any _).mono ?_; rintro e w' ⟨rfl, hb⟩)
        go_ret
        exact ⟨rfl, b3.trans (hb.mono b3.size)⟩
      · have t8 : decide ((m : Int) < (n : Int)) = false := by simp; omega
        clear own3
        go_wp2_with fail
        refine (xor_any A3 B _ m c3 d (xorL a b) b w3 hs3 (HB.out.mono b3) (by have := HNM.out; rw [xorL_length, HLA.out, HLB.out]; omega)).mono ?_
        rintro e w4 ⟨v4, rfl, own4⟩
        obtain ⟨A4, c4, rfl, hs4⟩ := own4.slice
        have b4 := b3.trans (own4.below.mono b3.size)
        rw [xorL_twice a b (by rw [HLA.out, HLB.out]; omega)] at hs4
        rw [xorL_twice a b (by rw [HLA.out, HLB.out]; omega)]
        clear own4 hs3 mx3 cp3
        go_wp2_with fail
        refine (same_any A4 A a.length n c4 c a a w4 hs4 (HA.out.mono b4)).mono ?_
        rintro e w5 ⟨rfl, rfl⟩
        have t10 : (a == a) = true := by simp
        go_wp2_with (go_at_call 8; refine (alive_any _).mono ?_; rintro e w' ⟨rfl, hb⟩)
        go_ret
        exact ⟨rfl, b4.trans (hb.mono b4.size)⟩
    · have t4 : decide (0 ≤ k) = false := decide_eq_false hk0
      clear hk
      go_wp2_with fail
      refine (xor_any A B n m c d a b _ (HA.out.mono b1) (HB.out.mono b1) (by have := HNM.out; omega)).mono ?_
      rintro e w3 ⟨v3, rfl, own3⟩
      obtain ⟨A3, c3, rfl, hs3⟩ := own3.slice
      have b3 := (b1).trans (own3.below.mono (b1).size)
      have mx3 := Sl.max hs3
      have cp3 := Sl.cap hs3
      by_cases hnm : m < n
      · have t8 : decide ((m : Int) < (n : Int)) = true := by simp; omega
        clear own3 hs3
        go_wp2_with (go_at_call 8; refine (alive_any _).mono ?_; rintro e w' ⟨rfl, hb⟩)
        go_ret
        exact ⟨rfl, b3.trans (hb.mono b3.size)⟩
      · have t8 : decide ((m : Int) < (n : Int)) = false := by simp; omega
        clear own3
        go_wp2_with fail
        refine (xor_any A3 B _ m c3 d (xorL a b) b w3 hs3 (HB.out.mono b3) (by have := HNM.out; rw [xorL_length, HLA.out, HLB.out]; omega)).mono ?_
        rintro e w4 ⟨v4, rfl, own4⟩
        obtain ⟨A4, c4, rfl, hs4⟩ := own4.slice
        have b4 := b3.trans (own4.below.mono b3.size)
        rw [xorL_twice a b (by rw [HLA.out, HLB.out]; omega)] at hs4
        rw [xorL_twice a b (by rw [HLA.out, HLB.out]; omega)]
        clear own4 hs3 mx3 cp3
        go_wp2_with fail
        refine (same_any A4 A a.length n c4 c a a w4 hs4 (HA.out.mono b4)).mono ?_
        rintro e w5 ⟨rfl, rfl⟩
        have t10 : (a == a) = true := by simp
        go_wp2_with (go_at_call 8; refine (alive_any _).mono ?_; rintro e w' ⟨rfl, hb⟩)
        go_ret
        exact ⟨rfl, b4.trans (hb.mono b4.size)⟩
end Go.Proofs.YtemfhfhhhjeflaaDoor
