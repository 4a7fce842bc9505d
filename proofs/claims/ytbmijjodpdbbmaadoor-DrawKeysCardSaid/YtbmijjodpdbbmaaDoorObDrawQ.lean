import Derived.Test.YtbmijjodpdbbmaaDoorObDrawK
namespace Go.Proofs.YtbmijjodpdbbmaaDoor
open Go.RowKit
set_option linter.unusedVariables false

theorem Is.addr {w : World} {A : Option Addr} {n c : Nat} {l : List Int} (h : Is w A n c l) (hn : 0 < n) :
    ∃ b o, A = some ⟨b, o, none⟩ ∧ ∀ j, j < n → w.cell? ⟨b, o + j, none⟩ = some (.int .i64 (iAt l j)) := by
  obtain ⟨b, o, e, hc⟩ := Sl.addr h hn
  have hl := Sl.len h
  refine ⟨b, o, e, fun j hj => hc j _ ?_⟩
  have : j < l.length := by rw [List.length_map] at hl; omega
  simp [i64c, iAt, this]
set_option maxRecDepth 100000 in
set_option maxHeartbeats 4000000 in
theorem drawKeys_walk (A B : Option Addr) (n c m d : Nat) (seed : List UInt8) (l : List Int) (w : World) (h : Bs w A n c seed) (hl : Is w B m d l) (hK : Tabs w) :
    Calls Tryd.prog 7 #[.slice A n c, .slice B m d] w fun e w' => e = .returned (.bool true) ∧ Below w.heap.size w w' := by
  have hz := hK.1.lt
  have hsl : seed.length = n := by have := Sl.len h; simpa using this
  by_cases hb : 100 < n ∨ 20 < m
  · have HK := Lib.hid hK; clear hK h hl hsl
    by_cases h1 : 100 < n
    · skip
      go_enter Tryd.func7, Tryd.ntmps7
      go_wp2_with (go_at_call 33; refine (alive14 _ HK.out.1).mono ?_; rintro e w' ⟨rfl, b1⟩; have B1 := Lib.hid b1; clear b1)
      go_ret
      exact ⟨rfl, B1.out⟩
    · have h2 : 20 < m := by omega
      go_enter Tryd.func7, Tryd.ntmps7
      go_wp2_with (go_at_call 33; refine (alive14 _ HK.out.1).mono ?_; rintro e w' ⟨rfl, b1⟩; have B1 := Lib.hid b1; clear b1)
      go_ret
      exact ⟨rfl, B1.out⟩
  · have hn : n ≤ 100 := by omega
    have hm : m ≤ 20 := by omega
    subst hsl
    have HH := Lib.hid h; have HK := Lib.hid hK; have HL := Lib.hid hl; clear hK h hl hb
    go_enter Tryd.func7, Tryd.ntmps7
    go_wp2_with fail
    refine (new_any A _ c seed _ HH.out (by omega) hz).mono ?_
    rintro e w1 ⟨p, A1, c1, rfl, s1, b1, g1, n1, q1⟩
    have S1 := Lib.hid s1; have B1 := Lib.hid b1; have G1 := Lib.hid g1
    have N1 : Hid (NoTab p) := NoTab.of_ge HK.out g1
    clear s1 b1 g1 q1 n1
    go_wp2_with fail
    go_loopw [6, 7] (fun v i wr => ∃ k D : Nat, k ≤ m ∧ D ≤ 7 * k ∧ i = .int .i64 (k : Int) ∧ v = .int .i64 (D : Int) ∧ Src wr p A1 seed.length c1 seed D ∧ Below w.heap.size w wr) (fun _ i _ => m - (intOf i).toNat)
    case atStart => exact ⟨0, 0, by omega, by omega, rfl, rfl, S1.out, B1.out⟩
    case round =>
      obtain ⟨k, D, hk, hD, rfl, rfl, s2, b2⟩ := hrel
      have S2 := Lib.hid s2; have B2 := Lib.hid b2
      clear s2 b2
      by_cases hlt : k < m
      · obtain ⟨bb, oo, rfl, hcc⟩ := HL.out.addr (show 0 < m by omega)
        have hlt2 : (k : Int) < m := by omega
        have CE : Hid (∀ W, Below w.heap.size w W → W.cell? ⟨bb, oo + k, none⟩ = some (.int .i64 (iAt l k))) := fun W hW => (hW.cell (World.block_lt_of_cell? w _ (hcc k hlt))).trans (hcc k hlt)
        clear hcc
        generalize iAt l k = x at *
        have c2 := CE.out wr B2.out
        by_cases hx : 200 < x ∧ x ≤ 4096
        · obtain ⟨hx1, hx2⟩ := hx
          have K2 : Hid (Tabs wr) := HK.out.mono B2.out
          go_wp2_with (go_at_call 33; refine (alive14 _ K2.out.1).mono ?_; rintro e w' ⟨rfl, b1⟩; have B3 := Lib.hid b1; clear b1)
          go_ret
          exact ⟨rfl, below_both B2.out B3.out⟩
        · have hnd := nextD_le D x hx
          have RB := Lib.hid (refBytes_any A _ c seed D x wr (HH.out.mono B2.out) (by omega) (by omega))
          have RS : Hid (∀ W, Src W p A1 seed.length c1 seed D → Tabs W → Calls Tryd.prog 36 #[.pointer (some ⟨p, 0, none⟩), .int .i64 x] W (RetS14 W p A1 seed.length c1 seed D x)) := fun W hs hk => bytesS_any p A1 _ c1 seed D x W hs (by omega) (by omega) hk N1.out
          have RB2 : Hid (Calls Tryd.prog 35 #[.slice A seed.length c, .int .i64 D, .int .i64 x] wr (fun e w' => ∃ A' c', e = .returned (.tuple #[.slice A' (bytesL seed D x).length c', .int .i64 (nextD D x : Nat)]) ∧ Bs w' A' (bytesL seed D x).length c' (bytesL seed D x) ∧ Below wr.heap.size wr w')) := RB.out
          have RS2 : Hid (∀ W, Src W p A1 seed.length c1 seed D → Tabs W → Calls Tryd.prog 36 #[.pointer (some ⟨p, 0, none⟩), .int .i64 x] W (fun e w' => ∃ A' c', e = .returned (.slice A' (bytesL seed D x).length c') ∧ Bs w' A' (bytesL seed D x).length c' (bytesL seed D x) ∧ Src w' p A1 seed.length c1 seed (nextD D x) ∧ Only p W w')) := RS.out
          clear RB RS
          generalize bytesL seed D x = L at *
          generalize L.length = Ln at *
          generalize nextD D x = D' at *
          by_cases h32 : x = 32
          · subst h32
            go_wp2_with fail
            refine RB2.out.mono ?_
            rintro e w3 ⟨A3, c3, rfl, s3, b3⟩
            have S3 := Lib.hid s3
            have B3 : Hid (Below w.heap.size w w3) := below_both B2.out b3
            have R3 : Hid (Src w3 p A1 seed.length c1 seed D) := S2.out.mono b3
            have c3' := CE.out w3 B3.out
            clear s3 b3 c2
            go_wp2_with fail
            refine (RS2.out w3 R3.out (HK.out.mono B3.out)).mono ?_
            rintro e w4 ⟨A4, c4, rfl, s4, r4, o4⟩
            have S4 := Lib.hid s4; have R4 := Lib.hid r4
            have B4 : Hid (Below w.heap.size w w4) := o4.below B3.out G1.out B3.out.size
            have S34 : Hid (Bs w4 A3 Ln c3 L) := o4.bs' S3.out R3.out
            have K4 : Hid (Tabs w4) := HK.out.mono B4.out
            have c4' := CE.out w4 B4.out
            clear s4 r4 o4 c3'
            go_wp2_with fail
            refine (srcClone_any p A1 c1 seed D' _ R4.out (by omega) (by have := B4.out.size; omega)).mono ?_
            rintro e w5 ⟨p5, A5, c5, rfl, s5, b5, g5, n5, q5⟩
            have S5 := Lib.hid s5; have G5 := Lib.hid g5
            have N5 : Hid (NoTab p5) := NoTab.of_ge K4.out g5
            have B45 := Lib.hid b5
            have B5 : Hid (Below w.heap.size w w5) := below_both B4.out b5
            clear s5 b5 g5 q5 n5
            go_wp2_with fail
            refine (drawG_step p5 A5 _ c5 seed D' _ S5.out (by omega) (by omega) (HK.out.mono B5.out) N5.out).mono ?_
            rintro e w6 ⟨A6, c6, rfl, s6, r6, o6⟩
            have S6 := Lib.hid s6; have R6 := Lib.hid r6
            have B46 : Hid (Below w4.heap.size w4 w6) := o6.below B45.out G5.out B45.out.size
            have B6 : Hid (Below w.heap.size w w6) := below_both B4.out B46.out
            clear s6 r6 o6
            go_wp2_with fail
            refine (refAt_any A _ c seed D' _ (HH.out.mono B6.out) (by omega) (by omega)).mono ?_
            rintro e w7 ⟨A7, c7, rfl, s7, b7⟩
            rw [drawL_len] at s7 ⊢
            have S7 := Lib.hid s7; have B67 := Lib.hid b7; clear s7 b7
            go_wp2_with fail
            refine (refSame_any A6 A7 32 32 c6 c7 _ _ _ (S6.out.mono B67.out) S7.out).mono ?_
            rintro e w8 ⟨rfl, q7, rfl⟩
            rw [beq_self_eq_true]
            have R7 : Hid (Src (w7.drewN q7) p5 A5 seed.length c5 seed (D' + 1)) := (R6.out.mono B67.out).mono (belowN (Below.refl _ _) q7)
            have BX : Hid (Below w4.heap.size w4 (w7.drewN q7)) := belowN (below_both B46.out B67.out) q7
            generalize w7.drewN q7 = wx at *
            go_wp2_with fail
            refine (drawn_any p5 A5 _ c5 seed (D' + 1) _ R7.out).mono ?_
            rintro e w' ⟨rfl, rfl⟩
            go_wp2_with fail
            refine (refSame_any A4 A3 Ln Ln c4 c3 _ _ _ (S4.out.mono BX.out) (S34.out.mono BX.out)).mono ?_
            rintro e w8 ⟨rfl, q8, rfl⟩
            rw [beq_self_eq_true]
            have R8 : Hid (Src ((wx).drewN q8) p A1 seed.length c1 seed D') := (R4.out.mono BX.out).mono (belowN (Below.refl _ _) q8)
            have B8 : Hid (Below w.heap.size w ((wx).drewN q8)) := belowN (below_both B4.out BX.out) q8
            generalize (wx).drewN q8 = wq at *
            go_wp2_with fail
            refine (drawn_any p A1 _ c1 seed D' _ R8.out).mono ?_
            rintro e w' ⟨rfl, rfl⟩
            go_wp2_with fail
            go_roundw
            case rel => exact ⟨k + 1, D', by omega, by omega, by go_num, rfl, R8.out, B8.out⟩
            case measure => simp [intOf]; omega
          · have hx32 : (x == 32) = false := by rw [beq_eq_false_iff_ne]; exact h32
            by_cases hx5 : x ≤ 200
            · skip
              go_wp2_with fail
              refine RB2.out.mono ?_
              rintro e w3 ⟨A3, c3, rfl, s3, b3⟩
              have S3 := Lib.hid s3
              have B3 : Hid (Below w.heap.size w w3) := below_both B2.out b3
              have R3 : Hid (Src w3 p A1 seed.length c1 seed D) := S2.out.mono b3
              have c3' := CE.out w3 B3.out
              clear s3 b3 c2
              go_wp2_with fail
              refine (RS2.out w3 R3.out (HK.out.mono B3.out)).mono ?_
              rintro e w4 ⟨A4, c4, rfl, s4, r4, o4⟩
              have S4 := Lib.hid s4; have R4 := Lib.hid r4
              have B4 : Hid (Below w.heap.size w w4) := o4.below B3.out G1.out B3.out.size
              have S34 : Hid (Bs w4 A3 Ln c3 L) := o4.bs' S3.out R3.out
              have K4 : Hid (Tabs w4) := HK.out.mono B4.out
              have c4' := CE.out w4 B4.out
              clear s4 r4 o4 c3'
              have BX : Hid (Below w4.heap.size w4 w4) := Below.refl _ _
              go_wp2_with fail
              refine (refSame_any A4 A3 Ln Ln c4 c3 _ _ _ (S4.out.mono BX.out) (S34.out.mono BX.out)).mono ?_
              rintro e w8 ⟨rfl, q8, rfl⟩
              rw [beq_self_eq_true]
              have R8 : Hid (Src ((w4).drewN q8) p A1 seed.length c1 seed D') := (R4.out.mono BX.out).mono (belowN (Below.refl _ _) q8)
              have B8 : Hid (Below w.heap.size w ((w4).drewN q8)) := belowN (below_both B4.out BX.out) q8
              generalize (w4).drewN q8 = wq at *
              go_wp2_with fail
              refine (drawn_any p A1 _ c1 seed D' _ R8.out).mono ?_
              rintro e w' ⟨rfl, rfl⟩
              go_wp2_with fail
              go_roundw
              case rel => exact ⟨k + 1, D', by omega, by omega, by go_num, rfl, R8.out, B8.out⟩
              case measure => simp [intOf]; omega
            · have hx6 : 4096 < x := by omega
              have hx7 : 200 < x := by omega
              go_wp2_with fail
              refine RB2.out.mono ?_
              rintro e w3 ⟨A3, c3, rfl, s3, b3⟩
              have S3 := Lib.hid s3
              have B3 : Hid (Below w.heap.size w w3) := below_both B2.out b3
              have R3 : Hid (Src w3 p A1 seed.length c1 seed D) := S2.out.mono b3
              have c3' := CE.out w3 B3.out
              clear s3 b3 c2
              go_wp2_with fail
              refine (RS2.out w3 R3.out (HK.out.mono B3.out)).mono ?_
              rintro e w4 ⟨A4, c4, rfl, s4, r4, o4⟩
              have S4 := Lib.hid s4; have R4 := Lib.hid r4
              have B4 : Hid (Below w.heap.size w w4) := o4.below B3.out G1.out B3.out.size
              have S34 : Hid (Bs w4 A3 Ln c3 L) := o4.bs' S3.out R3.out
              have K4 : Hid (Tabs w4) := HK.out.mono B4.out
              have c4' := CE.out w4 B4.out
              clear s4 r4 o4 c3'
              have BX : Hid (Below w4.heap.size w4 w4) := Below.refl _ _
              go_wp2_with fail
              refine (refSame_any A4 A3 Ln Ln c4 c3 _ _ _ (S4.out.mono BX.out) (S34.out.mono BX.out)).mono ?_
              rintro e w8 ⟨rfl, q8, rfl⟩
              rw [beq_self_eq_true]
              have R8 : Hid (Src ((w4).drewN q8) p A1 seed.length c1 seed D') := (R4.out.mono BX.out).mono (belowN (Below.refl _ _) q8)
              have B8 : Hid (Below w.heap.size w ((w4).drewN q8)) := belowN (below_both B4.out BX.out) q8
              generalize (w4).drewN q8 = wq at *
              go_wp2_with fail
              refine (drawn_any p A1 _ c1 seed D' _ R8.out).mono ?_
              rintro e w' ⟨rfl, rfl⟩
              go_wp2_with fail
              go_roundw
              case rel => exact ⟨k + 1, D', by omega, by omega, by go_num, rfl, R8.out, B8.out⟩
              case measure => simp [intOf]; omega
      · obtain rfl : k = m := by omega
        go_wp2_with fail
        refine (drawG_step p A1 _ c1 seed D _ S2.out (by omega) (by omega) (HK.out.mono B2.out) N1.out).mono ?_
        rintro e w3 ⟨A3, c3, rfl, s3, r3, o3⟩
        have S3 := Lib.hid s3
        have B3 : Hid (Below w.heap.size w w3) := o3.below B2.out G1.out B2.out.size
        clear s3 r3 o3
        go_wp2_with fail
        refine (refAt_any A _ c seed D _ (HH.out.mono B3.out) (by omega) (by omega)).mono ?_
        rintro e w4 ⟨A4, c4, rfl, s4, b4⟩
        rw [drawL_len] at s4 ⊢
        have S4 := Lib.hid s4; have S34 := Lib.hid (S3.out.mono b4); have B4 := Lib.hid (below_both B3.out b4); clear s4 b4
        go_wp2_with fail
        refine (refSame_any A3 A4 32 32 c3 c4 _ _ _ S34.out S4.out).mono ?_
        rintro e w5 ⟨rfl, q5, rfl⟩
        rw [beq_self_eq_true]
        have B5 : Hid (Below w.heap.size w (w4.drewN q5)) := belowN B4.out q5
        generalize w4.drewN q5 = w5 at *
        go_wp2_with fail
        refine (at_any A _ c seed k _ (HH.out.mono B5.out) (by omega) (by omega) (HK.out.mono B5.out)).mono ?_
        rintro e w6 ⟨A6, c6, rfl, s6, b6⟩
        rw [drawL_len] at s6 ⊢
        have S6 := Lib.hid s6; have B6 := Lib.hid (below_both B5.out b6); clear s6 b6
        go_wp2_with fail
        refine (refAt_any A _ c seed k _ (HH.out.mono B6.out) (by omega) (by omega)).mono ?_
        rintro e w7 ⟨A7, c7, rfl, s7, b7⟩
        rw [drawL_len] at s7 ⊢
        have S7 := Lib.hid s7; have S67 := Lib.hid (S6.out.mono b7); have B7 := Lib.hid (below_both B6.out b7); clear s7 b7
        go_wp2_with fail
        refine (refSame_any A6 A7 32 32 c6 c7 _ _ _ S67.out S7.out).mono ?_
        rintro e w8 ⟨rfl, q8, rfl⟩
        rw [beq_self_eq_true]
        have B8 : Hid (Below w.heap.size w (w7.drewN q8)) := belowN B7.out q8
        generalize w7.drewN q8 = w8 at *
        have K8 : Hid (Tabs w8) := HK.out.mono B8.out
        go_wp2_with (go_at_call 33; refine (alive14 _ K8.out.1).mono ?_; rintro e w' ⟨rfl, b7⟩; have B9 := Lib.hid b7; clear b7)
        go_ret
        exact ⟨rfl, below_both B8.out B9.out⟩
end Go.Proofs.YtbmijjodpdbbmaaDoor
