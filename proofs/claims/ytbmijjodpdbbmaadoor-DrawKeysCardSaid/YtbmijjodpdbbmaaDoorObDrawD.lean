import Derived.Test.YtbmijjodpdbbmaaDoorObDrawB
namespace Go.Proofs.YtbmijjodpdbbmaaDoor
open Go.RowKit
set_option linter.unusedVariables false

theorem RetBytes.only {w w' : World} {p : Nat} {seed : List UInt8} {d N : Nat} {e : Ending} (h : RetBytes w p seed d N e w') {A : Option Addr} {n c : Nat} (hs : Src w p A n c seed d) :
    ∃ A' c', e = .returned (.slice A' N c') ∧ Bs w' A' N c' ((drawsL seed d (drawsOf N)).take N) ∧ Src w' p A n c seed (d + drawsOf N) ∧ Only p w w' := by
  obtain ⟨A', c', rfl, s, b⟩ := h
  exact ⟨A', c', rfl, s, (hs.set _).mono (by rw [setCell_size]; exact b), _, b⟩
theorem Own.only {w wr : World} {p : Nat} {x : Value} {e : TypeId} {size n : Nat} {v : Value} {xs : List Value} (h : Own (w.setCell ⟨p, 1, none⟩ x) wr e size v n xs) : Only p w wr :=
  ⟨x, by have := h.below; rw [setCell_size] at this; exact this⟩
theorem drawG_step (p : Nat) (A : Option Addr) (n c : Nat) (seed : List UInt8) (d : Nat) (w : World) (h : Src w p A n c seed d) (hn : n ≤ 50000) (hd : d ≤ 4000) (hK : Tabs w) (hp : NoTab p) :
    Calls Tryd.prog 38 #[.pointer (some ⟨p, 0, none⟩)] w fun e w' => ∃ A' c', e = .returned (.slice A' 32 c') ∧ Bs w' A' 32 c' (drawL seed d) ∧ Src w' p A n c seed (d + 1) ∧ Only p w w' := by
  refine (drawG_any p A n c seed d w h hn hd hK hp).mono ?_
  rintro e w' ⟨A', c', rfl, s, b⟩
  rw [drawL_len] at s ⊢
  exact ⟨A', c', rfl, s, h.draw.mono b, _, by simpa [World.setCell] using b⟩

set_option maxRecDepth 100000 in
set_option maxHeartbeats 2000000 in
theorem drawBytes_walk (A : Option Addr) (n c : Nat) (seed : List UInt8) (i : Int) (w : World) (h : Bs w A n c seed) (hK : Tabs w) :
    Calls Tryd.prog 9 #[.slice A n c, .int .i64 i] w fun e w' => e = .returned (.bool true) ∧ Below w.heap.size w w' := by
  have hz := hK.1.lt
  have hl : seed.length = n := by have := Sl.len h; simpa using this
  by_cases hb : 100 < n ∨ i < 1 ∨ 150 < i
  · have HK := Lib.hid hK; clear hK h
    by_cases h1 : 100 < n
    · skip
      go_enter Tryd.func9, Tryd.ntmps9
      go_wp2_with (go_at_call 33; refine (alive14 _ HK.out.1).mono ?_; rintro e w' ⟨rfl, b1⟩; have B1 := Lib.hid b1; clear b1)
      go_ret
      exact ⟨rfl, B1.out⟩
    · by_cases h2 : i < 1
      · skip
        go_enter Tryd.func9, Tryd.ntmps9
        go_wp2_with (go_at_call 33; refine (alive14 _ HK.out.1).mono ?_; rintro e w' ⟨rfl, b1⟩; have B1 := Lib.hid b1; clear b1)
        go_ret
        exact ⟨rfl, B1.out⟩
      · have h3 : 150 < i := by omega
        go_enter Tryd.func9, Tryd.ntmps9
        go_wp2_with (go_at_call 33; refine (alive14 _ HK.out.1).mono ?_; rintro e w' ⟨rfl, b1⟩; have B1 := Lib.hid b1; clear b1)
        go_ret
        exact ⟨rfl, B1.out⟩
  · have hn : n ≤ 100 := by omega
    obtain ⟨N, rfl⟩ := Int.eq_ofNat_of_zero_le (show 0 ≤ i by omega)
    have hN : N ≤ 150 := by omega
    have hN1 : 1 ≤ N := by omega
    subst hl
    have HH := Lib.hid h; have HK := Lib.hid hK; clear hK h hb
    go_enter Tryd.func9, Tryd.ntmps9
    go_wp2_with fail
    refine (new_any A _ c seed _ HH.out (by omega) hz).mono ?_
    rintro e w1 ⟨p1, A1, c1, rfl, s1, b1, g1, n1, q1⟩
    have S1 := Lib.hid s1; have B1 := Lib.hid b1; have G1 := Lib.hid g1
    clear s1 b1 g1 q1 n1
    go_wp2_with fail
    refine (new_any A _ c seed _ (HH.out.mono B1.out) (by omega) (by have := B1.out.size; omega)).mono ?_
    rintro e w2 ⟨p2, A2, c2, rfl, s2, b2, g2, n2, q2⟩
    have S2 := Lib.hid s2; have G2 := Lib.hid g2
    have B2 : Hid (Below w.heap.size w w2) := below_both B1.out b2
    have S12 : Hid (Src w2 p1 A1 seed.length c1 seed 0) := S1.out.mono b2
    have L12 : Hid (p1 < p2) := by have := S1.out.1.lt; have := G2.out; show _ < _; omega
    clear s2 b2 g2 q2 n2
    go_wp2_with fail
    refine (srcClone_any p1 A1 c1 seed 0 _ S12.out (by omega) (by have := B2.out.size; omega)).mono ?_
    rintro e w3 ⟨p3, A3, c3, rfl, s3, b3, g3, n3, q3⟩
    have S3 := Lib.hid s3; have G3 := Lib.hid g3
    have B3 : Hid (Below w.heap.size w w3) := below_both B2.out b3
    have S13 : Hid (Src w3 p1 A1 seed.length c1 seed 0) := S12.out.mono b3
    have S23 : Hid (Src w3 p2 A2 seed.length c2 seed 0) := S2.out.mono b3
    have L23 : Hid (p2 < p3) := by have := S2.out.1.lt; have := G3.out; show _ < _; omega
    have K3 : Hid (Tabs w3) := HK.out.mono B3.out
    have N1 : Hid (NoTab p1) := NoTab.of_ge HK.out G1.out
    have N2 : Hid (NoTab p2) := NoTab.of_ge HK.out (by have := G2.out; have := B1.out.size; omega)
    have N3 : Hid (NoTab p3) := NoTab.of_ge HK.out (by have := G3.out; have := B2.out.size; omega)
    have P2 : Hid (w.heap.size ≤ p2) := by have := G2.out; have := B1.out.size; show _ ≤ _; omega
    have P3 : Hid (w.heap.size ≤ p3) := by have := G3.out; have := B2.out.size; show _ ≤ _; omega
    clear s3 b3 g3 q3 n3 S1 S2 S12 G2 G3
    go_wp2_with fail
    refine (drawG_step p3 A3 _ c3 seed 0 _ S3.out (by omega) (by omega) K3.out N3.out).mono ?_
    rintro e w4 ⟨A4, c4, rfl, s4, r4, o4⟩
    have S34 := Lib.hid r4
    have S14 : Hid (Src w4 p1 A1 seed.length c1 seed 0) := o4.src' S13.out S3.out (by have := L12.out; have := L23.out; omega)
    have S24 : Hid (Src w4 p2 A2 seed.length c2 seed 0) := o4.src' S23.out S3.out (by have := L23.out; omega)
    have B4 : Hid (Below w.heap.size w w4) := o4.below B3.out P3.out B3.out.size
    have K4 : Hid (Tabs w4) := K3.out.only o4 N3.out
    clear s4 r4 o4 S13 S23 S3 K3
    go_wp2_with fail
    refine (bytes_any p1 A1 _ c1 seed 0 _ S14.out (by omega) N hN1 (by omega) (by omega) K4.out N1.out).mono ?_
    rintro e w5 r5
    obtain ⟨A5, c5, rfl, s5, r5, o5⟩ := r5.only S14.out
    rw [Nat.zero_add] at r5
    have S5 := Lib.hid s5; have S15 := Lib.hid r5
    have S25 : Hid (Src w5 p2 A2 seed.length c2 seed 0) := o5.src' S24.out S14.out (by have := L12.out; omega)
    have S35 : Hid (Src w5 p3 A3 seed.length c3 seed 1) := o5.src' S34.out S14.out (by have := L12.out; have := L23.out; omega)
    have B5 : Hid (Below w.heap.size w w5) := o5.below B4.out G1.out B4.out.size
    have K5 : Hid (Tabs w5) := K4.out.only o5 N1.out
    clear s5 r5 o5 S14 S24 S34 K4
    have O0 : Hid (Own (w5.setCell ⟨p2, 1, none⟩ (.int .i64 ((0 : Nat) : Int))) w5 5 1 (.slice none 0 0) (32 * 0) ((drawsL seed 0 0).map u8c)) := Own.nil' (by rw [setCell_size]; exact S25.out.same _) _ _
    have PL2 : Hid (p2 < w5.heap.size) := S25.out.1.lt
    go_wp2_with fail
    go_loopw [9, 10] (fun v x wr => ∃ (k : Nat) (A' : Option Addr) (c' : Nat), v = .slice A' (32 * k) c' ∧ x = .int .i64 (k : Int) ∧ 32 * k < N + 32 ∧ Own (w5.setCell ⟨p2, 1, none⟩ (.int .i64 (k : Int))) wr 5 1 (.slice A' (32 * k) c') (32 * k) ((drawsL seed 0 k).map u8c) ∧ Src wr p2 A2 seed.length c2 seed k) (fun _ x _ => 200 - (intOf x).toNat)
    case atStart => exact ⟨0, none, 0, rfl, rfl, by omega, O0.out, S25.out⟩
    case round =>
      obtain ⟨k, A6, c6, rfl, rfl, hk, o6, s6⟩ := hrel
      have q6 := (o6.slice).choose_spec
      have O6 := Lib.hid o6; have S26 := Lib.hid s6
      have K6 : Hid (Tabs wr) := K5.out.only o6.only N2.out
      clear o6 s6 q6
      by_cases hlt : 32 * k < N
      · have hkN : k < N := by omega
        go_wp2_with fail
        refine (drawG_any p2 A2 _ c2 seed k _ S26.out (by omega) (by omega) K6.out N2.out).mono ?_
        rintro e w7 ⟨A7, c7, rfl, s7, b7⟩
        rw [drawL_len] at s7 ⊢
        have S7 := Lib.hid s7
        have O7 : Hid (Own (w5.setCell ⟨p2, 1, none⟩ (.int .i64 ((k + 1 : Nat) : Int))) w7 5 1 (.slice A6 (32 * k) c6) (32 * k) ((drawsL seed 0 k).map u8c)) := O6.out.drawn PL2.out (by
          rw [setCell_size] at b7
          exact b7)
        clear s7 b7
        have E8 : Hid ((drawsL seed 0 k).map u8c ++ (drawL seed k).map u8c = (drawsL seed 0 (k + 1)).map u8c) := by show _ = _; rw [← List.map_append]; simp [drawsL]
        go_wp2_with (at_builtin; refine wpList_cat rfl (.tmp 45) (.tmp 47) 22 rfl tBytes rfl O7.out rfl S7.out (one_bytes _) (by omega) ?_; intro v8 w8 own8; obtain ⟨A8, k8, rfl, sl8⟩ := own8.slice; have O8 := Lib.hid own8; have BS8 : Hid (Src w8 p2 A2 seed.length c2 seed (k + 1)) := ((S25.out.set (k + 1)).mono own8.below); clear own8 sl8)
        first | go_roundw | skip
        case rel => exact ⟨k + 1, A8, k8, rfl, by go_num, by omega, by rw [← E8.out]; exact O8.out, BS8.out⟩
        case measure => simp [intOf]; omega
      · have hD : drawsOf N = k := by unfold drawsOf; omega
        have HD := Lib.hid hD
        have S16 : Hid (Src wr p1 A1 seed.length c1 seed k) := by rw [← hD]; exact O6.out.only.src' S15.out S25.out (by have := L12.out; omega)
        have S36 : Hid (Src wr p3 A3 seed.length c3 seed 1) := O6.out.only.src' S35.out S25.out (by have := L23.out; omega)
        have T5 : Hid (Bs wr A5 N c5 ((drawsL seed 0 k).take N)) := by have := O6.out.only.bs' S5.out S25.out; rw [hD] at this; exact this
        have B6 : Hid (Below w.heap.size w wr) := O6.out.only.below B5.out P2.out B5.out.size
        have sl6 : Sl wr A6 (32 * k) c6 1 ((drawsL seed 0 k).map u8c) := by obtain ⟨A', c', e, s⟩ := O6.out.slice; cases e; exact s
        have q6 := sl6.cap
        have m6 := sl6.max
        have T6 : Hid (Bs wr A6 N c6 ((drawsL seed 0 k).take N)) := by have := sl6.upto (k := N) (by omega); rw [← List.map_take] at this; exact this
        have PL1 : Hid (p1 < wr.heap.size) := S16.out.1.lt
        have hup := run_upto tBytes A6 (32 * k) c6 N (by omega)
        clear hD sl6 O0 S15 S25 S35 S5 K5
        by_cases hkN : k < N
        · skip
          go_wp2_with fail
          refine (refSame_any A5 A6 N N c5 c6 _ _ _ T5.out T6.out).mono ?_
          rintro e w7 ⟨rfl, q, rfl⟩
          rw [beq_self_eq_true]
          have B7 : Hid (Below w.heap.size w (wr.drewN q)) := belowN B6.out q
          have K7 : Hid (Tabs (wr.drewN q)) := K6.out.mono (belowN (Below.refl _ _) q)
          have S17 : Hid (Src (wr.drewN q) p1 A1 seed.length c1 seed k) := S16.out.mono (belowN (Below.refl _ _) q)
          have S27 : Hid (Src (wr.drewN q) p2 A2 seed.length c2 seed k) := S26.out.mono (belowN (Below.refl _ _) q)
          have S37 : Hid (Src (wr.drewN q) p3 A3 seed.length c3 seed 1) := S36.out.mono (belowN (Below.refl _ _) q)
          generalize wr.drewN q = wq at *
          clear T5 T6 hup
          go_wp2_with fail
          refine (drawn_any p1 A1 _ c1 seed k _ S17.out).mono ?_
          rintro e w' ⟨rfl, rfl⟩
          go_wp2_with fail
          refine (drawn_any p2 A2 _ c2 seed k _ S27.out).mono ?_
          rintro e w' ⟨rfl, rfl⟩
          go_wp2_with fail
          refine (drawn_any p3 A3 _ c3 seed 1 _ S37.out).mono ?_
          rintro e w' ⟨rfl, rfl⟩
          go_wp2_with fail
          refine (drawG_step p1 A1 _ c1 seed k _ S17.out (by omega) (by omega) K7.out N1.out).mono ?_
          rintro e w8 ⟨A8, c8, rfl, s8, r8, o8⟩
          have S8 := Lib.hid s8
          have S28 : Hid (Src w8 p2 A2 seed.length c2 seed k) := o8.src' S27.out S17.out (by have := L12.out; omega)
          have B8 : Hid (Below w.heap.size w w8) := o8.below B7.out G1.out B7.out.size
          have K8 : Hid (Tabs w8) := K7.out.only o8 N1.out
          clear s8 r8 o8
          go_wp2_with fail
          refine (drawG_step p2 A2 _ c2 seed k _ S28.out (by omega) (by omega) K8.out N2.out).mono ?_
          rintro e w9 ⟨A9, c9, rfl, s9, r9, o9⟩
          have S9 := Lib.hid s9
          have S89 : Hid (Bs w9 A8 32 c8 (drawL seed k)) := o9.bs' S8.out S28.out
          have B9 : Hid (Below w.heap.size w w9) := o9.below B8.out P2.out B8.out.size
          have K9 : Hid (Tabs w9) := K8.out.only o9 N2.out
          clear s9 r9 o9
          go_wp2_with fail
          refine (refSame_any A8 A9 32 32 c8 c9 _ _ _ S89.out S9.out).mono ?_
          rintro e w10 ⟨rfl, q2, rfl⟩
          rw [beq_self_eq_true]
          have K10 : Hid (Tabs (w9.drewN q2)) := K9.out.mono (belowN (Below.refl _ _) q2)
          go_wp2_with (go_at_call 33; refine (alive14 _ K10.out.1).mono ?_; rintro e w' ⟨rfl, b7⟩; have B11 := Lib.hid b7; clear b7)
          go_ret
          exact ⟨rfl, below_both (belowN B9.out q2) B11.out⟩
        · skip
          go_wp2_with fail
          refine (refSame_any A5 A6 N N c5 c6 _ _ _ T5.out T6.out).mono ?_
          rintro e w7 ⟨rfl, q, rfl⟩
          rw [beq_self_eq_true]
          have B7 : Hid (Below w.heap.size w (wr.drewN q)) := belowN B6.out q
          have K7 : Hid (Tabs (wr.drewN q)) := K6.out.mono (belowN (Below.refl _ _) q)
          have S17 : Hid (Src (wr.drewN q) p1 A1 seed.length c1 seed k) := S16.out.mono (belowN (Below.refl _ _) q)
          have S27 : Hid (Src (wr.drewN q) p2 A2 seed.length c2 seed k) := S26.out.mono (belowN (Below.refl _ _) q)
          have S37 : Hid (Src (wr.drewN q) p3 A3 seed.length c3 seed 1) := S36.out.mono (belowN (Below.refl _ _) q)
          generalize wr.drewN q = wq at *
          clear T5 T6 hup
          go_wp2_with fail
          refine (drawn_any p1 A1 _ c1 seed k _ S17.out).mono ?_
          rintro e w' ⟨rfl, rfl⟩
          go_wp2_with fail
          refine (drawn_any p2 A2 _ c2 seed k _ S27.out).mono ?_
          rintro e w' ⟨rfl, rfl⟩
          go_wp2_with fail
          refine (drawn_any p3 A3 _ c3 seed 1 _ S37.out).mono ?_
          rintro e w' ⟨rfl, rfl⟩
          go_wp2_with fail
          refine (drawG_step p1 A1 _ c1 seed k _ S17.out (by omega) (by omega) K7.out N1.out).mono ?_
          rintro e w8 ⟨A8, c8, rfl, s8, r8, o8⟩
          have S8 := Lib.hid s8
          have S28 : Hid (Src w8 p2 A2 seed.length c2 seed k) := o8.src' S27.out S17.out (by have := L12.out; omega)
          have B8 : Hid (Below w.heap.size w w8) := o8.below B7.out G1.out B7.out.size
          have K8 : Hid (Tabs w8) := K7.out.only o8 N1.out
          clear s8 r8 o8
          go_wp2_with fail
          refine (drawG_step p2 A2 _ c2 seed k _ S28.out (by omega) (by omega) K8.out N2.out).mono ?_
          rintro e w9 ⟨A9, c9, rfl, s9, r9, o9⟩
          have S9 := Lib.hid s9
          have S89 : Hid (Bs w9 A8 32 c8 (drawL seed k)) := o9.bs' S8.out S28.out
          have B9 : Hid (Below w.heap.size w w9) := o9.below B8.out P2.out B8.out.size
          have K9 : Hid (Tabs w9) := K8.out.only o9 N2.out
          clear s9 r9 o9
          go_wp2_with fail
          refine (refSame_any A8 A9 32 32 c8 c9 _ _ _ S89.out S9.out).mono ?_
          rintro e w10 ⟨rfl, q2, rfl⟩
          rw [beq_self_eq_true]
          have K10 : Hid (Tabs (w9.drewN q2)) := K9.out.mono (belowN (Below.refl _ _) q2)
          go_wp2_with (go_at_call 33; refine (alive14 _ K10.out.1).mono ?_; rintro e w' ⟨rfl, b7⟩; have B11 := Lib.hid b7; clear b7)
          go_ret
          exact ⟨rfl, below_both (belowN B9.out q2) B11.out⟩
end Go.Proofs.YtbmijjodpdbbmaaDoor
