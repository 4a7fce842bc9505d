import Derived.Test.YtbmijjodpdbbmaaDoorObChF
import Derived.Test.YtbmijjodpdbbmaaDoorObChI
import Derived.Test.YtbmijjodpdbbmaaDoorObChJ
import Derived.Test.YtbmijjodpdbbmaaDoorObRef
namespace Go.Proofs.YtbmijjodpdbbmaaDoor
open Go.RowKit
set_option linter.unusedVariables false

/-! ### RatchetSteps -/
theorem own_wrs {t : TypeId} {w w' : World} {v : Value} {L : List Wr} {B : Option Addr} {m d : Nat} (h : Own w w' t 2 v L.length (L.flatMap Wr.cells)) (hL : Wrs w B m d L) : ∃ A' c', v = .slice A' m c' ∧ Wrs w' A' m c' L ∧ (∀ b o, A' = some ⟨b, o, none⟩ → w.heap.size ≤ b) := by
  obtain ⟨A', c', rfl, hs⟩ := h.slice
  rw [hL.1] at hs ⊢
  exact ⟨A', c', rfl, ⟨hL.1, hs, fun x hx => ⟨(hL.2.2 x hx).1.mono h.below, (hL.2.2 x hx).2⟩⟩, fun b o e => (h.1.lt b (by rw [e]; rfl)).1⟩
def StepsMid (W0 : World) (p0 : Int) (cur : List UInt8) (L : List Wr) (v5 v6 : Value) (W : World) : Prop :=
  ∃ A1 c1 p A2 c2 B d M, v5 = .slice A1 32 c1 ∧ v6 = .pointer (some ⟨p, 0, none⟩) ∧ Bs W A1 32 c1 (deriveL cur keyS) ∧ Blk W p 30 [.int .i64 (p0 + 1), .slice A2 32 c2, .slice B L.length d] ∧ Bs W A2 32 c2 (deriveL cur nextS) ∧ Wrs W B L.length d M ∧ M.map Wr.kk = L.map Wr.kk ∧ Below W0.heap.size W0 W
set_option maxRecDepth 100000 in
set_option maxHeartbeats 4000000 in
theorem ratchetSteps_walk (p0 : Int) (A B E : Option Addr) (n c m d q r : Nat) (cur key : List UInt8) (L : List Wr) (w : World) (hp1 : -9223372036854775808 ≤ p0) (hp2 : p0 ≤ 9223372036854775807) (hcur : Bs w A n c cur) (hL : Wrs w B m d L) (hkey : Bs w E q r key) (hK : ShaK w) :
    Calls Tryd.prog 3 #[.agg #[.int .i64 p0, .slice A n c, .slice B m d], .slice E q r] w fun e w' => e = .returned (.bool true) ∧ Below w.heap.size w w' := by
  have hn1 := hcur.cap; have hn2 := hcur.max
  have hq1 := hkey.cap; have hq2 := hkey.max
  have hm1 := hL.2.1.cap; have hm2 := hL.2.1.max
  obtain ⟨W0, hW0⟩ : ∃ W0, W0 = w.alloc (.cells #[.int .i64 p0, .slice A n c, .slice B m d] 25) := ⟨_, rfl⟩
  have hB0 : Below w.heap.size w W0 := by rw [hW0]; exact (Below.refl _ _).alloc (Nat.le_refl _) _
  have bx : Blk W0 w.heap.size 25 [.int .i64 p0, .slice A n c, .slice B m d] := by rw [hW0]; exact Blk.new w _ _
  have hzW : W0.heap.size = w.heap.size + 1 := by rw [hW0]; simp
  have HBX := Lib.hid bx; have HB0 := Lib.hid hB0; have HW0 := Lib.hid hW0; have HZ := Lib.hid hzW
  have HCUR := Lib.hid (hcur.mono hB0); have HL := Lib.hid (hL.mono hB0); have HKEY := Lib.hid (hkey.mono hB0); have HK := Lib.hid (hK.mono hB0)
  have HLI := Lib.hid (light22_any p0 A B n c m d L W0 (by omega) (hL.mono hB0))
  have HLL := Lib.hid hL.1
  have HAL : Hid (∀ W, Below w.heap.size w W → Calls Tryd.prog 11 #[] W fun e w' => e = .returned (.bool true) ∧ Below W.heap.size W w') := fun W hW => alive33 W (hK.mono hW)
  clear bx hB0 hW0 hzW hcur hL hkey hK
  cases hli : lightK n L with
  | false =>
    rw [hli] at HLI
    go_enter Tryd.func3, Tryd.ntmps3
    go_wp2_with fail
    rw [← HW0.out]
    refine HLI.out.mono ?_
    rintro e w1 ⟨rfl, b1⟩
    have B1 := Lib.hid (below_both HB0.out b1); clear b1
    go_wp2_with fail
    refine (HAL.out w1 B1.out).mono ?_
    rintro e w2 ⟨rfl, b2⟩
    have B2 := Lib.hid (below_both B1.out b2); clear b2
    go_wp2_with fail
    go_ret
    exact ⟨rfl, B2.out⟩
  | true =>
    rw [hli] at HLI
    have HLF := Lib.hid hli
    clear hli
    by_cases hq : 100 < q
    · go_enter Tryd.func3, Tryd.ntmps3
      go_wp2_with fail
      rw [← HW0.out]
      refine HLI.out.mono ?_
      rintro e w1 ⟨rfl, b1⟩
      have B1 := Lib.hid (below_both HB0.out b1); clear b1
      go_wp2_with fail
      refine (HAL.out w1 B1.out).mono ?_
      rintro e w2 ⟨rfl, b2⟩
      have B2 := Lib.hid (below_both B1.out b2); clear b2
      go_wp2_with fail
      go_ret
      exact ⟨rfl, B2.out⟩
    by_cases hg : 1099511627776 < p0
    · go_enter Tryd.func3, Tryd.ntmps3
      go_wp2_with fail
      rw [← HW0.out]
      refine HLI.out.mono ?_
      rintro e w1 ⟨rfl, b1⟩
      have x0 : w1.cell? ⟨w.heap.size, 0, none⟩ = some (.int .i64 p0) := ((HBX.out.mono b1).cell 0).trans rfl
      have B1 := Lib.hid (below_both HB0.out b1); clear b1
      go_wp2_with fail
      refine (HAL.out w1 B1.out).mono ?_
      rintro e w2 ⟨rfl, b2⟩
      have B2 := Lib.hid (below_both B1.out b2); clear b2
      go_wp2_with fail
      go_ret
      exact ⟨rfl, B2.out⟩
    have hlf := HLF.out
    unfold lightK at hlf
    rw [Bool.and_eq_true, Bool.and_eq_true, decide_eq_true_iff, decide_eq_true_iff] at hlf
    obtain ⟨hn, hm, hrw⟩ := hlf
    rw [HLL.out] at hm
    have HRW : Hid (∀ x ∈ L, x.r.n ≤ 20000) := fun x hx => by have := List.all_eq_true.1 hrw x hx; simp at this; omega
    clear hrw HLF
    have AL : Hid (∀ (W : World) o, Below W.heap.size W (W.alloc o)) := fun W o => (Below.refl _ _).alloc (Nat.le_refl _) _
    have BDW : Hid (∀ W : World, Below W.heap.size W W.drew) := fun W => (Below.refl _ _).drew
    have N1 : Hid (∀ W : World, Blk (W.alloc (.cells #[.int .i64 0, .slice none 0 0, .slice none 0 0] 30)) W.heap.size 30 [.int .i64 0, .slice none 0 0, .slice none 0 0]) := fun W => Blk.new W _ _
    have RN : Hid (∀ W : World, Below W0.heap.size W0 W → Calls Tryd.prog 13 #[.slice none 0 0] W fun e w' => ∃ g, e = .returned (.pointer (some ⟨g, 0, none⟩)) ∧ RealS w' g ∧ Below W.heap.size W w' ∧ W.heap.size ≤ g) := fun W hW => realNil_any W (by have := (HK.out.mono hW).lt; exact this)
    have HOF : Hid (∀ W, Below W0.heap.size W0 W → Calls Tryd.prog 14 #[.agg #[.int .i64 p0, .slice A n c, .slice B m d]] W fun e w' => ∃ A' d', e = .returned (.agg #[.int .i64 p0, .slice A n c, .slice A' m d']) ∧ Wrs w' A' m d' L ∧ Below W.heap.size W w') := fun W hW => (of22_any p0 A B n c m d L W (HL.out.mono hW) (by omega)).mono (by
      rintro e w' ⟨v, rfl, ho⟩
      obtain ⟨A', c', rfl, hw, _⟩ := own_wrs ho (HL.out.mono hW)
      exact ⟨A', c', rfl, hw, ho.below⟩)
    have HST : Hid (∀ W B' d' gs, Below W0.heap.size W0 W → RealS W gs → Wrs W B' m d' L → Calls Tryd.prog 12 #[.pointer (some ⟨gs, 0, none⟩), .agg #[.int .i64 p0, .slice A n c, .slice B' m d']] W (RetStep W p0 cur (L.map Wr.kk))) := fun W B' d' gs hW hR hB => step_any gs p0 A B' n c m d' cur L W hR (HCUR.out.mono hW) (by omega) hB (by omega) HRW.out (by omega) (by omega) (HK.out.mono hW)
    go_enter Tryd.func3, Tryd.ntmps3
    go_wp2_with fail
    rw [← HW0.out]
    refine HLI.out.mono ?_
    rintro e w1 ⟨rfl, b1⟩
    have BX1 := Lib.hid (HBX.out.mono b1)
    have x0 : w1.cell? ⟨w.heap.size, 0, none⟩ = some (.int .i64 p0) := (BX1.out.cell 0).trans rfl
    have lz1 : w.heap.size < w1.heap.size := BX1.out.lt
    have B01 := Lib.hid b1; clear b1
    go_upto_region 3 with fail
    go_cut [5, 6] (fun v5 v6 wx => StepsMid W0 p0 cur L v5 v6 wx)
    case first =>
      have x1 : w1.cell? ⟨w.heap.size, 1, none⟩ = some (.slice A n c) := (BX1.out.cell 1).trans rfl
      have x2 : w1.cell? ⟨w.heap.size, 2, none⟩ = some (.slice B m d) := (BX1.out.cell 2).trans rfl
      go_region_law (first
        | (go_simp; go_at_call 13; refine (RN.out _ (by first | exact B01.out.drew | exact below_both B01.out (AL.out _ _).drew)).mono ?_; rintro e w2 ⟨gs, rfl, r2, b2, g2⟩; have R2 := Lib.hid r2; have B2 := Lib.hid b2; have BW2 : Hid (Below w1.heap.size w1 w2) := (by first | exact below_both (BDW.out _) b2 | exact below_both (AL.out _ _).drew b2); have lz2 : w.heap.size < w2.heap.size := Nat.lt_of_lt_of_le BX1.out.lt BW2.out.size; have x0 : w2.cell? ⟨w.heap.size, 0, none⟩ = some (.int .i64 p0) := ((BX1.out.mono BW2.out).cell 0).trans rfl; have x1 : w2.cell? ⟨w.heap.size, 1, none⟩ = some (.slice A n c) := ((BX1.out.mono BW2.out).cell 1).trans rfl; have x2 : w2.cell? ⟨w.heap.size, 2, none⟩ = some (.slice B m d) := ((BX1.out.mono BW2.out).cell 2).trans rfl; clear r2 b2 g2)
        | (go_simp; go_at_call 14; refine (HOF.out _ (by first | exact below_both B01.out BW2.out | exact below_both (below_both B01.out BW2.out) (AL.out _ _))).mono ?_; rintro e w3 ⟨B3, d3, rfl, wr3, b3⟩; have WR3 := Lib.hid wr3; have B3' := Lib.hid b3; have BW3 : Hid (Below w1.heap.size w1 w3) := (by first | exact below_both BW2.out b3 | exact below_both (below_both BW2.out (AL.out _ _)) b3); have R3 : Hid (RealS w3 gs) := (by first | exact R2.out.mono b3 | exact (R2.out.mono (AL.out _ _)).mono b3); clear wr3 b3)
        | (go_simp; go_at_call 12; refine (HST.out _ B3 d3 gs (by first | exact below_both B01.out BW3.out | exact below_both (below_both B01.out BW3.out) (AL.out _ _)) (by first | exact R3.out | exact R3.out.mono (AL.out _ _)) (by first | exact WR3.out | exact WR3.out.mono (AL.out _ _))).mono ?_; rintro e w4 ⟨A4, c4, A5, c5, v5, M5, rfl, s4, s5, o5, f5, ap5, ap6, k5, b5⟩; obtain ⟨B5, d5, rfl, wr5⟩ := o5.wrs; have hml : M5.length = L.length := (by have := congrArg List.length k5; simpa using this); rw [hml] at wr5; rw [hml]; have S4 := Lib.hid s4; have S5 := Lib.hid s5; have W5 := Lib.hid wr5; have K5 := Lib.hid k5; have BW4 : Hid (Below w1.heap.size w1 w4) := (by first | exact below_both BW3.out b5 | exact below_both (below_both BW3.out (AL.out _ _)) b5); (first | (have bkp := N1.out w3; have bka := bkp.mono b5; have HNE : Hid (∀ b o, B5 = some ⟨b, o, none⟩ → b ≠ w3.heap.size) := (fun b o e => Nat.ne_of_gt (Nat.lt_of_lt_of_le bkp.lt (o5.1.1.lt b (by rw [e]; rfl)).1)); have HPW : Hid (w1.heap.size ≤ w3.heap.size) := BW3.out.size; have BKA := Lib.hid bka; have z0 : w4.cell? _ = some (.int .i64 0) := (bka.cell 0).trans rfl; have z1 : w4.cell? _ = some (.slice none 0 0) := (bka.cell 1).trans rfl; have z2 : w4.cell? _ = some (.slice none 0 0) := (bka.cell 2).trans rfl; have y0 := bka.free 0; have y1 := bka.free 1; have y2 := bka.free 2; clear bka bkp) | (have bkp := (N1.out w2).mono B3'.out; have bka := bkp.mono b5; have HNE : Hid (∀ b o, B5 = some ⟨b, o, none⟩ → b ≠ w2.heap.size) := (fun b o e => Nat.ne_of_gt (Nat.lt_of_lt_of_le bkp.lt (o5.1.1.lt b (by rw [e]; rfl)).1)); have HPW : Hid (w1.heap.size ≤ w2.heap.size) := BW2.out.size; have BKA := Lib.hid bka; have z0 : w4.cell? _ = some (.int .i64 0) := (bka.cell 0).trans rfl; have z1 : w4.cell? _ = some (.slice none 0 0) := (bka.cell 1).trans rfl; have z2 : w4.cell? _ = some (.slice none 0 0) := (bka.cell 2).trans rfl; have y0 := bka.free 0; have y1 := bka.free 1; have y2 := bka.free 2; clear bka bkp) | (have bkp := (((N1.out w1).mono (Below.refl _ _).drew).mono B2.out).mono B3'.out; have bka := bkp.mono b5; have HNE : Hid (∀ b o, B5 = some ⟨b, o, none⟩ → b ≠ w1.heap.size) := (fun b o e => Nat.ne_of_gt (Nat.lt_of_lt_of_le bkp.lt (o5.1.1.lt b (by rw [e]; rfl)).1)); have HPW : Hid (w1.heap.size ≤ w1.heap.size) := Nat.le_refl _; have BKA := Lib.hid bka; have z0 : w4.cell? _ = some (.int .i64 0) := (bka.cell 0).trans rfl; have z1 : w4.cell? _ = some (.slice none 0 0) := (bka.cell 1).trans rfl; have z2 : w4.cell? _ = some (.slice none 0 0) := (bka.cell 2).trans rfl; have y0 := bka.free 0; have y1 := bka.free 1; have y2 := bka.free 2; clear bka bkp) | skip); clear s4 s5 wr5 o5 f5 k5 b5 hml ap5 ap6))
      all_goals
        go_wp2_with fail
        go_meet
        case rel =>
          first
            | exact ⟨A4, c4, w4.heap.size, A5, c5, B5, d5, M5, rfl, rfl, S4.out.mono (AL.out _ _), Blk.new w4 _ _, S5.out.mono (AL.out _ _), W5.out.mono (AL.out _ _), K5.out, below_both B01.out (below_both BW4.out (AL.out _ _))⟩
            | exact ⟨A4, c4, _, A5, c5, B5, d5, M5, rfl, rfl, S4.out.keepC BKA.out (fun b hb => (Below.heap_setCell _ ⟨_, 2, none⟩ _ b hb).trans ((Below.heap_setCell _ ⟨_, 1, none⟩ _ b hb).trans (Below.heap_setCell _ ⟨_, 0, none⟩ _ b hb))), ((BKA.out.set 0 _).set 1 _).set 2 _, S5.out.keepC BKA.out (fun b hb => (Below.heap_setCell _ ⟨_, 2, none⟩ _ b hb).trans ((Below.heap_setCell _ ⟨_, 1, none⟩ _ b hb).trans (Below.heap_setCell _ ⟨_, 0, none⟩ _ b hb))), W5.out.keepC BKA.out (fun b hb => (Below.heap_setCell _ ⟨_, 2, none⟩ _ b hb).trans ((Below.heap_setCell _ ⟨_, 1, none⟩ _ b hb).trans (Below.heap_setCell _ ⟨_, 0, none⟩ _ b hb))) HNE.out, K5.out, below_both B01.out (((BW4.out.setCell (p := ⟨_, 0, none⟩) HPW.out _).setCell (p := ⟨_, 1, none⟩) HPW.out _).setCell (p := ⟨_, 2, none⟩) HPW.out _)⟩
    case rest =>
      clear x0
      obtain ⟨A1, c1, p, A2, c2, B', d', M, rfl, rfl, s1, bk, s2, wr, mk, hb⟩ := hcut
      rw [HLL.out] at bk wr
      have bxc := HBX.out.mono hb
      have x0 : wc.cell? ⟨w.heap.size, 0, none⟩ = some (.int .i64 p0) := (bxc.cell 0).trans rfl
      have x1 : wc.cell? ⟨w.heap.size, 1, none⟩ = some (.slice A n c) := (bxc.cell 1).trans rfl
      have x2 : wc.cell? ⟨w.heap.size, 2, none⟩ = some (.slice B m d) := (bxc.cell 2).trans rfl
      have BXC := Lib.hid bxc; have S1 := Lib.hid s1; have BK := Lib.hid bk; have S2 := Lib.hid s2; have WR := Lib.hid wr; have MK := Lib.hid mk; have HB := Lib.hid hb
      clear bxc s1 bk s2 wr mk hb
      have hw1 : IntKind.i64.wrap (p0 + 1) = p0 + 1 := IntWalk.i64_in _ (by omega)
      have lzc : w.heap.size < wc.heap.size := BXC.out.lt
      have lpc : p < wc.heap.size := BK.out.lt
      have LZC := Lib.hid lzc
      have NH : Hid (Blk (wc.alloc (.cells #[.int .i64 (p0 + 1), .slice A n c, .slice B m d] 25)) wc.heap.size 25 [.int .i64 (p0 + 1), .slice A n c, .slice B m d]) := Blk.new wc _ _
      have HBW := Lib.hid (below_both HB0.out HB.out)
      have HD4 : Hid (∀ W, Below W0.heap.size W0 W → ∀ s : List UInt8, s.length ≤ 5000 → Calls Tryd.prog 15 #[.slice A n c, .string ⟨s.toArray⟩] W (RetRd W (deriveL cur s))) := fun W hW s hs => refDerive_any A n c cur s W (HCUR.out.mono hW) (by omega) hs
      go_wp2_with fail
      refine (HD4.out _ (below_both HB.out (AL.out _ _)) nextS (by decide)).mono ?_
      rintro e w5 ⟨A5, c5, rfl, s5, b5⟩
      rw [deriveL_len] at s5 ⊢
      have S5 := Lib.hid s5
      have BH5 := Lib.hid (NH.out.mono b5)
      have y1 := BH5.out.free 1
      have BW5 := Lib.hid (below_both (AL.out wc _) b5)
      have yy : w5.cell? ⟨wc.heap.size, 1, none⟩ = some (.slice A n c) := (BH5.out.cell 1).trans rfl
      clear s5 b5 x0 x1 x2 lzc lpc
      go_upto_region 7 with fail
      obtain ⟨W6, hW6⟩ : ∃ W6, W6 = w5.setCell ⟨wc.heap.size, 1, none⟩ (.slice A5 32 c5) := ⟨_, rfl⟩
      rw [← hW6]
      have OT6 : ∀ b, b ≠ wc.heap.size → W6.heap[b]? = w5.heap[b]? := fun b hb => by rw [hW6]; exact Below.heap_setCell _ _ _ b hb
      have bw6 : Below wc.heap.size wc W6 := by rw [hW6]; exact BW5.out.setCell (p := ⟨wc.heap.size, 1, none⟩) (Nat.le_refl _) _
      have BH6 : Hid (Blk W6 wc.heap.size 25 [.int .i64 (p0 + 1), .slice A5 32 c5, .slice B m d]) := by rw [hW6]; exact BH5.out.set 1 _
      have S56 : Hid (Bs W6 A5 32 c5 (deriveL cur nextS)) := Bs.keepC S5.out BH5.out OT6
      have BP6 := Lib.hid (BK.out.mono bw6); have BX6 := Lib.hid (BXC.out.mono bw6)
      have S16 := Lib.hid (S1.out.mono bw6); have S26 := Lib.hid (S2.out.mono bw6); have WR6 := Lib.hid (WR.out.mono bw6)
      have HB6 := Lib.hid (below_both HB.out bw6)
      have HBW6 := Lib.hid (below_both HB0.out HB6.out)
      clear hW6 OT6 bw6 y1 yy
      have BD6 : Hid (Below W6.heap.size W6 W6.drew) := (Below.refl _ _).drew
      have HDK : Hid (∀ W, Below W6.heap.size W6 W → Calls Tryd.prog 15 #[.slice A n c, .string ⟨keyS.toArray⟩] W fun e w' => ∃ A' c', e = .returned (.slice A' 32 c') ∧ Bs w' A' 32 c' (deriveL cur keyS) ∧ Below W.heap.size W w') := fun W hW => (HD4.out W (below_both HB6.out hW) keyS (by decide)).mono (by
        rintro e w' ⟨A', c', rfl, s', b'⟩
        rw [deriveL_len] at s' ⊢
        exact ⟨A', c', rfl, s', b'⟩)
      have HSM : Hid (∀ W A' c', Below W6.heap.size W6 W → Bs W A' 32 c' (deriveL cur keyS) → Calls Tryd.prog 16 #[.slice A1 32 c1, .slice A' 32 c'] W fun e w' => e = .returned (.bool true) ∧ Below W.heap.size W w') := fun W A' c' hW hs => (refSame_b A1 A' 32 32 c1 c' _ _ W (S16.out.mono hW) hs).mono (by
        rintro e w' ⟨rfl, b'⟩
        exact ⟨ret_bool (beq_self_eq_true _), b'⟩)
      have HBK : Hid (∀ W g A' n' c' B' m' d' L', Wrs W B' m' d' L' → m' ≤ 1000 → Calls Tryd.prog 18 #[.agg #[.int .i64 g, .slice A' n' c', .slice B' m' d']] W fun e w' => ∃ B2 d2, e = .returned (.agg #[.int .i64 g, .slice A' n' c', .slice B2 m' d2]) ∧ Wrs w' B2 m' d2 L' ∧ Below W.heap.size W w') := fun W g A' n' c' B' m' d' L' hw hm => (back22_any g A' B' n' c' m' d' L' W hw hm).mono (by
        rintro e w' ⟨v, rfl, ho⟩
        obtain ⟨A2, c2, rfl, hw2, _⟩ := own_wrs ho hw
        exact ⟨A2, c2, rfl, hw2, ho.below⟩)
      have HSC := Lib.hid sameChain_yes
      have xq : W6.cell? ⟨w.heap.size, 1, none⟩ = some (.slice A n c) := (BX6.out.cell 1).trans rfl
      have HSTA := Lib.hid (fun W hW => start_any E q r key W (hW : Bs W E q r key) (by omega))
      have HKL := Lib.hid (Bs.len HKEY.out)
      go_region_law (first
        | (go_simp; go_at_call 11; refine (HAL.out w13 (below_both HBW6.out B13.out)).mono ?_; rintro e w14 ⟨rfl, b14⟩; have B14 := Lib.hid (below_both B13.out b14); clear b14)
        | (go_simp; go_at_call 17; refine (HSC.out 0 A11 B12 E none q c11 0 d12 r 0 key [] [] w12 S12.out (HKEY.out.mono (below_both HB6.out B12'.out)) WR12.out ⟨rfl, Sl.nil _ _, fun x hx => by cases hx⟩ rfl (by decide)).mono ?_; rintro e w13 ⟨rfl, b13⟩; have B13 := Lib.hid (below_both B12'.out b13); clear b13)
        | (go_simp; go_at_call 18; refine (HBK.out w11 _ _ _ _ _ _ _ [] WR11.out (by decide)).mono ?_; rintro e w12 ⟨B12, d12, rfl, wr12, b12⟩; have B12' := Lib.hid (below_both B11'.out b12); have WR12 := Lib.hid wr12; have S12 := Lib.hid (S11.out.mono b12); clear wr12 b12)
        | (go_simp; go_at_call 19; refine (HSTA.out w10 (HKEY.out.mono (below_both HB6.out B10.out))).mono ?_; rintro e w11 ⟨A11, c11, v11, M11, rfl, s11, o11, f11, k11, fa11, b11⟩; obtain ⟨B11, d11, rfl, wr11⟩ := o11.wrs; have hM : M11 = [] := List.map_eq_nil_iff.1 k11; subst hM; rw [HKL.out] at s11; rw [HKL.out]; have B11' := Lib.hid (below_both B10.out b11); have WR11 := Lib.hid wr11; have S11 := Lib.hid s11; clear s11 o11 f11 k11 fa11 b11 wr11)
        | (go_simp; go_at_call 17; refine (HSC.out (p0 + 1) A2 B9 A5 B 32 c2 m d9 c5 d (deriveL cur nextS) M L w9 (S26.out.mono B9'.out) (S56.out.mono B9'.out) WR9.out (HL.out.mono (below_both HB6.out B9'.out)) MK.out.symm (by omega)).mono ?_; rintro e w10 ⟨rfl, b10⟩; have B10 := Lib.hid (below_both B9'.out b10); clear b10)
        | (go_simp; go_at_call 18; refine (HBK.out w8 _ _ _ _ _ _ _ M (WR6.out.mono B8.out) (by omega)).mono ?_; rintro e w9 ⟨B9, d9, rfl, wr9, b9⟩; have B9' := Lib.hid (below_both B8.out b9); have WR9 := Lib.hid wr9; have BH9 := Lib.hid (BH6.out.mono B9'.out); have x0 : w9.cell? _ = some (.int .i64 (p0 + 1)) := (BH9.out.cell 0).trans rfl; have x1 : w9.cell? _ = some (.slice A5 32 c5) := (BH9.out.cell 1).trans rfl; have x2 : w9.cell? _ = some (.slice B m d) := (BH9.out.cell 2).trans rfl; clear b9 wr9)
        | (go_simp; go_at_call 16; refine (HSM.out w7 A7 c7 B7.out S7.out).mono ?_; rintro e w8 ⟨rfl, b8⟩; have B8 := Lib.hid (below_both B7.out b8); have BP8 := Lib.hid (BP6.out.mono B8.out); have BH8 := Lib.hid (BH6.out.mono B8.out); have z0 : w8.cell? _ = some (.int .i64 (p0 + 1)) := (BP8.out.cell 0).trans rfl; have z1 : w8.cell? _ = some (.slice A2 32 c2) := (BP8.out.cell 1).trans rfl; have z2 : w8.cell? _ = some (.slice B' m d') := (BP8.out.cell 2).trans rfl; have x0 : w8.cell? _ = some (.int .i64 (p0 + 1)) := (BH8.out.cell 0).trans rfl; have x1 : w8.cell? _ = some (.slice A5 32 c5) := (BH8.out.cell 1).trans rfl; have x2 : w8.cell? _ = some (.slice B m d) := (BH8.out.cell 2).trans rfl; clear b8)
        | (go_simp; go_at_call 15; refine (HDK.out _ BD6.out).mono ?_; rintro e w7 ⟨A7, c7, rfl, s7, b7⟩; have B7 := Lib.hid (below_both BD6.out b7); have S7 := Lib.hid s7; clear s7 b7))
      all_goals
        go_wp2_with fail
        go_ret
        exact ⟨rfl, below_both HBW6.out B14.out⟩
end Go.Proofs.YtbmijjodpdbbmaaDoor
