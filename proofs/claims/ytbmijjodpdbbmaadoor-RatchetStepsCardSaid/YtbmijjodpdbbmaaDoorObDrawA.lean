import Derived.Test.YtbmijjodpdbbmaaDoorObDrawL
namespace Go.Proofs.YtbmijjodpdbbmaaDoor
open Go.RowKit
set_option linter.unusedVariables false

theorem nilBytes (w : World) : Calls Tryd.prog 36 #[.pointer none, .int .i64 9] w fun e w' => e = .returned (.slice none 0 0) ∧ w = w' := by
  go_enter Tryd.func36, Tryd.ntmps36
  go_wp2_with fail
  go_step3
  go_wp2_with fail
  rw [Exit.noGoto_ret]
  go_ret
  exact ⟨rfl, rfl⟩
set_option maxRecDepth 100000 in
set_option maxHeartbeats 2000000 in
theorem drawAlike_walk (A : Option Addr) (n c : Nat) (seed : List UInt8) (i : Int) (w : World) (h : Bs w A n c seed) (hK : ShaK w) :
    Calls Tryd.prog 8 #[.slice A n c, .int .i64 i] w fun e w' => e = .returned (.bool true) ∧ Below w.heap.size w w' := by
  have hz := hK.lt
  have hl : seed.length = n := by have := Sl.len h; simpa using this
  by_cases hb : 100 < n ∨ i < 0 ∨ 20 < i
  · have HK := Lib.hid hK; clear hK h
    by_cases h1 : 100 < n
    · go_enter Tryd.func8, Tryd.ntmps8
      go_wp2_with (go_at_call 33; refine (alive14 _ HK.out).mono ?_; rintro e w' ⟨rfl, b1⟩; have B1 := Lib.hid b1; clear b1)
      go_ret
      exact ⟨rfl, B1.out⟩
    · by_cases h2 : i < 0
      · go_enter Tryd.func8, Tryd.ntmps8
        go_wp2_with (go_at_call 33; refine (alive14 _ HK.out).mono ?_; rintro e w' ⟨rfl, b1⟩; have B1 := Lib.hid b1; clear b1)
        go_ret
        exact ⟨rfl, B1.out⟩
      · have h3 : 20 < i := by omega
        go_enter Tryd.func8, Tryd.ntmps8
        go_wp2_with (go_at_call 33; refine (alive14 _ HK.out).mono ?_; rintro e w' ⟨rfl, b1⟩; have B1 := Lib.hid b1; clear b1)
        go_ret
        exact ⟨rfl, B1.out⟩
  · have hn : n ≤ 100 := by omega
    obtain ⟨N, rfl⟩ := Int.eq_ofNat_of_zero_le (show 0 ≤ i by omega)
    have hN : N ≤ 20 := by omega
    subst hl
    have HH := Lib.hid h; have HK := Lib.hid hK; clear hK h hb
    go_enter Tryd.func8, Tryd.ntmps8
    go_wp2_with fail
    refine (new_any A _ c seed _ HH.out (by omega) hz).mono ?_
    rintro e w1 ⟨p, A1, c1, rfl, s1, b1, g1, n1, q1⟩
    have S1 := Lib.hid s1; have B1 := Lib.hid b1; have G1 := Lib.hid g1; have Q1 := Lib.hid q1
    clear s1 b1 g1 q1
    go_wp2_with fail
    go_loopw [6] (fun x wr => ∃ k : Nat, k ≤ N ∧ x = .int .i64 k ∧ Src wr p A1 seed.length c1 seed k ∧ Below w.heap.size w wr) (fun x _ => N - (intOf x).toNat)
    case atStart => exact ⟨0, Nat.zero_le _, rfl, S1.out, B1.out⟩
    case round =>
      obtain ⟨k, hk, rfl, s2, b2⟩ := hrel
      have S2 := Lib.hid s2; have B2 := Lib.hid b2
      clear s2 b2
      by_cases hlt : k < N
      · go_wp2_with fail
        refine (draw_step p A1 _ c1 seed k _ S2.out (by omega) (by omega) (HK.out.mono B2.out) n1).mono ?_
        rintro e w3 ⟨A3, c3, rfl, s3, r3, o3⟩
        have S3 := Lib.hid s3; have R3 := Lib.hid r3
        have B3 : Hid (Below w.heap.size w w3) := o3.below B2.out G1.out B2.out.size
        clear s3 r3 o3
        go_wp2_with fail
        refine (at_small A _ c seed k _ (HH.out.mono B3.out) (by omega) (by omega) (HK.out.mono B3.out)).mono ?_
        rintro e w4 ⟨A4, c4, rfl, s4, b4⟩
        rw [drawL_len] at s4 ⊢
        have S4 := Lib.hid s4; have B4 := Lib.hid b4; clear s4 b4
        go_wp2_with fail
        refine (refSame_any A3 A4 32 32 c3 c4 _ _ _ (S3.out.mono B4.out) S4.out).mono ?_
        rintro e w5 ⟨rfl, q, rfl⟩
        rw [beq_self_eq_true]
        go_wp2_with fail
        go_roundw
        case rel => exact ⟨k + 1, by omega, by go_num, (R3.out.mono B4.out).mono (belowN (Below.refl _ _) q), belowN (below_both B3.out B4.out) q⟩
        case measure => simp [intOf]; omega
      · obtain rfl : k = N := by omega
        go_wp2_with fail
        refine (srcClone_any p A1 c1 seed k _ S2.out (by omega) (by have := B2.out.size; omega)).mono ?_
        rintro e w3 ⟨p3, A3, c3, rfl, s3, b3, g3, n3, q3⟩
        have S3 := Lib.hid s3; have B3 := Lib.hid b3; have G3 := Lib.hid g3; have Q3 := Lib.hid q3
        have S2' : Hid (Src w3 p A1 seed.length c1 seed k) := S2.out.mono B3.out
        have PL : Hid (p < wr.heap.size) := S2.out.1.lt
        have BB3 : Hid (Below w.heap.size w w3) := below_both B2.out B3.out
        clear s3 b3 g3 q3
        go_wp2_with (go_at_call 40; refine (drawn_any p A1 _ c1 seed k _ S2'.out).mono ?_; rintro e w6 ⟨rfl, rfl⟩)
        refine (draw_step p3 A3 _ c3 seed k _ S3.out (by omega) (by omega) (HK.out.mono BB3.out) n3).mono ?_
        rintro e w4 ⟨A4, c4, rfl, s4, r4, o4⟩
        have S4 := Lib.hid s4; have R4 := Lib.hid r4
        have B4 : Hid (Below w.heap.size w w4) := o4.below BB3.out (by have := G3.out; have := B2.out.size; omega) BB3.out.size
        have SP4 : Hid (Src w4 p A1 seed.length c1 seed k) := o4.src S2'.out (by have := PL.out; have := G3.out; omega) (fun h0 => bs_far S2'.out.2.1 h0 S3.out.1)
        clear s4 r4 o4
        go_wp2_with fail
        refine (draw_step p A1 _ c1 seed k _ SP4.out (by omega) (by omega) (HK.out.mono B4.out) n1).mono ?_
        rintro e w5 ⟨A5, c5, rfl, s5, r5, o5⟩
        have S5 := Lib.hid s5
        have B5 : Hid (Below w.heap.size w w5) := o5.below B4.out G1.out B4.out.size
        have S45 : Hid (Bs w5 A4 32 c4 (drawL seed k)) := o5.bs S4.out (fun _ => bs_far S4.out (by omega) SP4.out.1)
        clear s5 r5 o5
        go_wp2_with fail
        refine (refSame_any A4 A5 32 32 c4 c5 _ _ _ S45.out S5.out).mono ?_
        rintro e w6 ⟨rfl, q, rfl⟩
        rw [beq_self_eq_true]
        have HKF : Hid (ShaK (w5.drewN q)) := HK.out.mono (belowN B5.out q)
        go_wp2_with (first
          | (go_at_call 38; refine (nilDraw _).mono ?_; rintro e w' ⟨rfl, rfl⟩)
          | (go_at_call 40; refine (nilDrawn _).mono ?_; rintro e w' ⟨rfl, rfl⟩)
          | (go_at_call 36; refine (nilBytes _).mono ?_; rintro e w' ⟨rfl, rfl⟩)
          | (go_at_call 37; refine (nilClone _).mono ?_; rintro e w' ⟨rfl, rfl⟩)
          | (go_at_call 33; refine (alive14 _ HKF.out).mono ?_; rintro e w' ⟨rfl, b7⟩; have B7 := Lib.hid b7; clear b7))
        go_ret
        exact ⟨rfl, below_both (belowN B5.out q) B7.out⟩
end Go.Proofs.YtbmijjodpdbbmaaDoor
