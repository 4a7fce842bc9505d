import Derived.Test.YtbmijjodpdbbmaaDoorObShaB
namespace Go.Proofs.YtbmijjodpdbbmaaDoor
open Go.RowKit
set_option linter.unusedVariables false

/-- An array of 64 words, each known. -/
structure Tab64 (KS : Array Value) : Prop where
  size : KS.size = 64
  look : ∀ t, t < 64 → KS[t]? = some (.int .u32 (un (kT t)))
theorem tab_words (ws : List UInt32) (hl : ws.length = 64) : (ws.map u32c).toArray.size = 64 := by simp [hl]

theorem wpList_store_rowW {P : Program} {ops : Array Oper} {rest : List Oper} {o : Oper} {a : Act} {w : World} {Q : Exit → Act → World → Prop} (hgd : o.guard = none) (ty : TypeId) (x y : Operand) (ho : o.op = .store ty x y)
    (g : Nat) (cells : Array Value) (hx : a.eval x = .pointer (some ⟨g, 0, none⟩)) (hy : a.eval y = .agg cells)
    (t : TypeId) (old : Array Value) (hg : w.heap[g]? = some (.cells old t (0, 0))) (hi : (P.info? ty).map (·.size) = some cells.size)
    (hold : old.size = cells.size) (h1 : cells.all (·.oneCell') = true) (W : World) (hW : w.setRow g cells = W)
    (h : wpList P ops Q rest (a.put o.dst undef) W) : wpList P ops Q (o :: rest) a w := wpList_store_row hgd ty x y ho g cells hx hy t old hg hi hold h1 (by rw [hW]; exact h)
set_option maxRecDepth 100000 in
set_option maxHeartbeats 1000000 in
theorem with_core (KS : Array Value) (hKS : Tab64 KS) (s0 s1 s2 s3 s4 s5 s6 s7 : UInt32) (A : Option Addr) (c : Nat) (l : List UInt8) (w : World) (h : Bs w A 64 c l) :
    Calls Tryd.prog 124 #[.agg KS, .agg #[.int .u32 (un s0), .int .u32 (un s1), .int .u32 (un s2), .int .u32 (un s3), .int .u32 (un s4), .int .u32 (un s5), .int .u32 (un s6), .int .u32 (un s7)], .slice A 64 c] w fun e w' => e = .returned (.agg (blockH ⟨s0, s1, s2, s3, s4, s5, s6, s7⟩ l).cells.toArray) ∧ Below w.heap.size w w' := by
  have hcap := h.cap
  have hmax := h.max
  have HH := Lib.hid h; have HKS := Lib.hid hKS; clear h hKS
  obtain ⟨wl, hwl⟩ : ∃ wl, wl = ((w.alloc (.cells KS 153)).alloc (.cells #[.int .u32 (un s0), .int .u32 (un s1), .int .u32 (un s2), .int .u32 (un s3), .int .u32 (un s4), .int .u32 (un s5), .int .u32 (un s6), .int .u32 (un s7)] 155)).alloc (.cells #[.int .u32 0, .int .u32 0, .int .u32 0, .int .u32 0, .int .u32 0, .int .u32 0, .int .u32 0, .int .u32 0] 155) := ⟨_, rfl⟩
  have HWL := Lib.hid hwl; clear hwl
  go_enter Tryd.func124, Tryd.ntmps124
  go_wp2_with fail
  rw [← HWL.out]
  have hz0 : wl.heap.size = w.heap.size + 1 + 1 + 1 := by rw [HWL.out]; simp
  have B0 : Hid (Blk wl w.heap.size 153 KS.toList) := by
    rw [HWL.out]; exact ((Blk.new w 153 KS).alloc _).alloc _
  have B1 : Hid (Blk wl (w.heap.size + 1) 155 (H8.cells ⟨s0, s1, s2, s3, s4, s5, s6, s7⟩)) := by
    rw [HWL.out]; exact Blk.alloc (cs := H8.cells ⟨s0, s1, s2, s3, s4, s5, s6, s7⟩) (heap_alloc2_new w _ _) _
  have B2 : Hid (Blk wl (w.heap.size + 1 + 1) 155 (reps 8 (.int .u32 0))) := by
    rw [HWL.out]
    have := heap_alloc2_new (w.alloc (.cells KS 153)) (.cells #[.int .u32 (un s0), .int .u32 (un s1), .int .u32 (un s2), .int .u32 (un s3), .int .u32 (un s4), .int .u32 (un s5), .int .u32 (un s6), .int .u32 (un s7)] 155) (.cells #[.int .u32 0, .int .u32 0, .int .u32 0, .int .u32 0, .int .u32 0, .int .u32 0, .int .u32 0, .int .u32 0] 155)
    rw [show (w.alloc (.cells KS 153)).heap.size = w.heap.size + 1 by simp] at this
    exact this
  have hbl : Below w.heap.size w wl := by rw [HWL.out]; exact (((Below.refl _ _).alloc (Nat.le_refl _) _).alloc (by simp) _).alloc (by simp; omega) _
  refine (refWords_any A c l wl (HH.out.mono hbl)).mono ?_
  rintro e w1 ⟨rfl, b1⟩
  have HB1 := Lib.hid (below_both hbl b1)
  have hz1 : w.heap.size + 1 + 1 + 1 ≤ w1.heap.size := by have := b1.size; omega
  have C0 := Lib.hid (B0.out.mono b1); have C1 := Lib.hid (B1.out.mono b1); have C2 := Lib.hid (B2.out.mono b1)
  clear hbl b1 hz0 B0 B1 B2
  have HWS := Lib.hid (tab_words (wTo l 64) (wTo_len l 64))
  have HWA : Hid (∀ t, t < 64 → (((wTo l 64).map u32c).toArray)[t]? = some (.int .u32 (un ((wTo l 64).getD t 0)))) := by
    intro t ht
    have hl := wTo_len l 64
    rw [List.getElem?_toArray, List.getElem?_map, List.getElem?_eq_getElem (by omega), List.getD_eq_getElem?_getD, List.getElem?_eq_getElem (by omega)]
    rfl
  have HWO := Lib.hid (all_one_words (wTo l 64))
  have HBH : Hid (blockH ⟨s0, s1, s2, s3, s4, s5, s6, s7⟩ l = (rTo (wTo l 64) ⟨s0, s1, s2, s3, s4, s5, s6, s7⟩ 64).add ⟨s0, s1, s2, s3, s4, s5, s6, s7⟩) := rfl
  generalize ((wTo l 64).map u32c).toArray = WS at *
  generalize wTo l 64 = ws at *
  obtain ⟨w2, hw2⟩ : ∃ w2, w2 = (w1.alloc (.cells (reps 64 (.int .u32 0)).toArray 153)).setRow w1.heap.size WS := ⟨_, rfl⟩
  have hz2 : w2.heap.size = w1.heap.size + 1 := by rw [hw2]; simp [World.setRow]
  have hoth : ∀ b, b < w1.heap.size → w2.heap[b]? = w1.heap[b]? := fun b hb => by
    rw [hw2]; exact (setRow_other (w1.alloc _) w1.heap.size b _ (by omega)).trans (heap_alloc_old w1 _ hb)
  have D0 : Hid (Blk w2 w.heap.size 153 KS.toList) := (hoth _ (by omega)).trans C0.out
  have D1 : Hid (Blk w2 (w.heap.size + 1) 155 (H8.cells ⟨s0, s1, s2, s3, s4, s5, s6, s7⟩)) := (hoth _ (by omega)).trans C1.out
  have D2 : Hid (Blk w2 (w.heap.size + 1 + 1) 155 (reps 8 (.int .u32 0))) := (hoth _ (by omega)).trans C2.out
  have D3 : Hid (Blk w2 w1.heap.size 153 WS.toList) := by
    rw [hw2]; exact setRow_heap (w1.alloc _) w1.heap.size _ _ _ _ (heap_alloc_new w1 _)
  have HB2 : Hid (Below w.heap.size w w2) := by rw [hw2]; exact below_row (HB1.out.alloc (by omega) _) (by omega) _
  have HW2 := Lib.hid hw2; clear hw2 hoth
  have c0 : w2.cell? ⟨w.heap.size + 1, 0, none⟩ = some (.int .u32 (un s0)) := by rw [D1.out.cell]; rfl
  have c1 : w2.cell? ⟨w.heap.size + 1, 1, none⟩ = some (.int .u32 (un s1)) := by rw [D1.out.cell]; rfl
  have c2 : w2.cell? ⟨w.heap.size + 1, 2, none⟩ = some (.int .u32 (un s2)) := by rw [D1.out.cell]; rfl
  have c3 : w2.cell? ⟨w.heap.size + 1, 3, none⟩ = some (.int .u32 (un s3)) := by rw [D1.out.cell]; rfl
  have c4 : w2.cell? ⟨w.heap.size + 1, 4, none⟩ = some (.int .u32 (un s4)) := by rw [D1.out.cell]; rfl
  have c5 : w2.cell? ⟨w.heap.size + 1, 5, none⟩ = some (.int .u32 (un s5)) := by rw [D1.out.cell]; rfl
  have c6 : w2.cell? ⟨w.heap.size + 1, 6, none⟩ = some (.int .u32 (un s6)) := by rw [D1.out.cell]; rfl
  have c7 : w2.cell? ⟨w.heap.size + 1, 7, none⟩ = some (.int .u32 (un s7)) := by rw [D1.out.cell]; rfl
  have HZ2 := Lib.hid hz2; clear hz2
  go_wp2_with (refine wpList_store_rowW rfl 153 (.tmp 7) (.tmp 20) rfl w1.heap.size WS rfl rfl 153 (reps 64 (.int .u32 0)).toArray (by exact heap_alloc_new w1 _) (by rw [HWS.out]; kernel_rfl) (by rw [HWS.out]; rfl) HWO.out w2 (by exact HW2.out.symm) ?_)
  have hz3 : w.heap.size ≤ w2.heap.size := by have := HZ2.out; omega
  have E0 : Hid (Blk (w2.alloc (.cells #[.int .u32 (un s0), .int .u32 (un s1), .int .u32 (un s2), .int .u32 (un s3), .int .u32 (un s4), .int .u32 (un s5), .int .u32 (un s6), .int .u32 (un s7)] 155)) w2.heap.size 155 (rTo ws ⟨s0, s1, s2, s3, s4, s5, s6, s7⟩ 0).cells) := Blk.new w2 _ _
  clear c0 c1 c2 c3 c4 c5 c6 c7
  go_loopw [9] (fun i wr => ∃ t : Nat, t ≤ 64 ∧ i = .int .i64 t ∧ Blk wr w2.heap.size 155 (rTo ws ⟨s0, s1, s2, s3, s4, s5, s6, s7⟩ t).cells ∧ (∀ b, b < w2.heap.size → wr.heap[b]? = w2.heap[b]?) ∧ Below w.heap.size w wr) (fun i _ => 64 - (intOf i).toNat)
  case atStart => exact ⟨0, by omega, rfl, E0.out, fun b hb => heap_alloc_old w2 _ hb, HB2.out.alloc hz3 _⟩
  case round =>
    obtain ⟨t, ht, rfl, hblk, hsame, hbel⟩ := hrel
    have HSM := Lib.hid hsame; clear hsame
    have hz2 := HZ2.out
    by_cases hlt : t < 64
    · have HR : Hid (rTo ws ⟨s0, s1, s2, s3, s4, s5, s6, s7⟩ (t + 1) = rnd (kT t) (ws.getD t 0) (rTo ws ⟨s0, s1, s2, s3, s4, s5, s6, s7⟩ t)) := rfl
      have kc : wr.cell? ⟨w.heap.size, t, none⟩ = some (.int .u32 (un (kT t))) := by
        rw [World.cell?_of_block (HSM.out w.heap.size (by omega)), D0.out.cell, Array.getElem?_toList]; exact HKS.out.look t hlt
      have wc : wr.cell? ⟨w1.heap.size, t, none⟩ = some (.int .u32 (un (ws.getD t 0))) := by
        rw [World.cell?_of_block (HSM.out w1.heap.size (by omega)), D3.out.cell, Array.getElem?_toList]; exact HWA.out t hlt
      generalize rTo ws ⟨s0, s1, s2, s3, s4, s5, s6, s7⟩ t = r at *
      generalize kT t = kt at *
      generalize ws.getD t 0 = wt at *
      obtain ⟨r0, r1, r2, r3, r4, r5, r6, r7⟩ := r
      have F0 := Lib.hid hblk
      have c0 : wr.cell? ⟨w2.heap.size, 0, none⟩ = some (.int .u32 (un r0)) := by rw [hblk.cell]; rfl
      have c1 : wr.cell? ⟨w2.heap.size, 1, none⟩ = some (.int .u32 (un r1)) := by rw [hblk.cell]; rfl
      have c2 : wr.cell? ⟨w2.heap.size, 2, none⟩ = some (.int .u32 (un r2)) := by rw [hblk.cell]; rfl
      have c3 : wr.cell? ⟨w2.heap.size, 3, none⟩ = some (.int .u32 (un r3)) := by rw [hblk.cell]; rfl
      have c4 : wr.cell? ⟨w2.heap.size, 4, none⟩ = some (.int .u32 (un r4)) := by rw [hblk.cell]; rfl
      have c5 : wr.cell? ⟨w2.heap.size, 5, none⟩ = some (.int .u32 (un r5)) := by rw [hblk.cell]; rfl
      have c6 : wr.cell? ⟨w2.heap.size, 6, none⟩ = some (.int .u32 (un r6)) := by rw [hblk.cell]; rfl
      have c7 : wr.cell? ⟨w2.heap.size, 7, none⟩ = some (.int .u32 (un r7)) := by rw [hblk.cell]; rfl
      have p0 : (0 : Int) ≤ (t : Int) := by omega
      have q0 : (t : Int) < 64 := by omega
      have CE : Hid (∀ (W : World), W.heap = wr.heap → ∀ (b i : Nat) (v : Value), wr.cell? ⟨b, i, none⟩ = some v → W.cell? ⟨b, i, none⟩ = some v) := fun W e b i v h => (World.cell?_of_block (by rw [e])).trans h
      clear hblk hz2
      have e1 := w_add
      have e2 := w_xor
      have e3 := w_and
      have e4 := w_or
      have e6 := w_not
      go_wp2
      go_quiet (fail)
      obtain ⟨wA, hre⟩ : ∃ W0, W0 = (wr).drewN nq := ⟨_, rfl⟩
      rw [← hre]
      have HwA : Hid (wA.heap = wr.heap) := by rw [hre]; exact rfl
      have HBwA : Hid (Below w.heap.size w wA) := by rw [hre]; exact belowN hbel _
      clear hre
      have kcwA := CE.out wA HwA.out _ _ _ kc
      have wcwA := CE.out wA HwA.out _ _ _ wc
      have c0wA := CE.out wA HwA.out _ _ _ c0
      have c1wA := CE.out wA HwA.out _ _ _ c1
      have c2wA := CE.out wA HwA.out _ _ _ c2
      have c3wA := CE.out wA HwA.out _ _ _ c3
      have c4wA := CE.out wA HwA.out _ _ _ c4
      have c5wA := CE.out wA HwA.out _ _ _ c5
      have c6wA := CE.out wA HwA.out _ _ _ c6
      have c7wA := CE.out wA HwA.out _ _ _ c7
      go_wp2
      go_quiet ((first | (go_at_call 143; with_reducible exact quiet_rd (refRight6_any r4 _)) | (go_at_call 143; with_reducible exact quiet_rd (refRight11_any r4 _)) | (go_at_call 143; with_reducible exact quiet_rd (refRight25_any r4 _))))
      clear kcwA wcwA c0wA c1wA c2wA c3wA c4wA c5wA c6wA c7wA
      obtain ⟨wB, hre⟩ : ∃ W0, W0 = (wA).drewN nq := ⟨_, rfl⟩
      rw [← hre]
      have HwB : Hid (wB.heap = wr.heap) := by rw [hre]; exact HwA.out
      have HBwB : Hid (Below w.heap.size w wB) := by rw [hre]; exact belowN HBwA.out _
      clear hre
      have kcwB := CE.out wB HwB.out _ _ _ kc
      have wcwB := CE.out wB HwB.out _ _ _ wc
      have c0wB := CE.out wB HwB.out _ _ _ c0
      have c1wB := CE.out wB HwB.out _ _ _ c1
      have c2wB := CE.out wB HwB.out _ _ _ c2
      have c3wB := CE.out wB HwB.out _ _ _ c3
      have c4wB := CE.out wB HwB.out _ _ _ c4
      have c5wB := CE.out wB HwB.out _ _ _ c5
      have c6wB := CE.out wB HwB.out _ _ _ c6
      have c7wB := CE.out wB HwB.out _ _ _ c7
      go_wp2
      go_quiet ((first | (go_at_call 143; with_reducible exact quiet_rd (refRight2_any r0 _)) | (go_at_call 143; with_reducible exact quiet_rd (refRight13_any r0 _)) | (go_at_call 143; with_reducible exact quiet_rd (refRight22_any r0 _))))
      clear kcwB wcwB c0wB c1wB c2wB c3wB c4wB c5wB c6wB c7wB
      obtain ⟨wC, hre⟩ : ∃ W0, W0 = (wB).drewN nq := ⟨_, rfl⟩
      rw [← hre]
      have HwC : Hid (wC.heap = wr.heap) := by rw [hre]; exact HwB.out
      have HBwC : Hid (Below w.heap.size w wC) := by rw [hre]; exact belowN HBwB.out _
      clear hre
      have kcwC := CE.out wC HwC.out _ _ _ kc
      have wcwC := CE.out wC HwC.out _ _ _ wc
      have c0wC := CE.out wC HwC.out _ _ _ c0
      have c1wC := CE.out wC HwC.out _ _ _ c1
      have c2wC := CE.out wC HwC.out _ _ _ c2
      have c3wC := CE.out wC HwC.out _ _ _ c3
      have c4wC := CE.out wC HwC.out _ _ _ c4
      have c5wC := CE.out wC HwC.out _ _ _ c5
      have c6wC := CE.out wC HwC.out _ _ _ c6
      have c7wC := CE.out wC HwC.out _ _ _ c7
      clear kc wc c0 c1 c2 c3 c4 c5 c6 c7 kcwC wcwC e6
      have hbkC : Hid (wC.heap[w2.heap.size]? = some (.cells #[.int .u32 (un r0), .int .u32 (un r1), .int .u32 (un r2), .int .u32 (un r3), .int .u32 (un r4), .int .u32 (un r5), .int .u32 (un r6), .int .u32 (un r7)] 155 (0, 0))) := by rw [HwC.out]; exact F0.out
      have e5 := w_add'
      obtain ⟨wD, hwD⟩ : ∃ wD, wD = wC.setRow w2.heap.size #[.int .u32 (un ((r7 + (rotR r4 6 ^^^ rotR r4 11 ^^^ rotR r4 25) + (r4 &&& r5 ^^^ (r4 ^^^ 4294967295) &&& r6) + kt + wt) + ((rotR r0 2 ^^^ rotR r0 13 ^^^ rotR r0 22) + (r0 &&& r1 ^^^ r0 &&& r2 ^^^ r1 &&& r2)))), .int .u32 (un r0), .int .u32 (un r1), .int .u32 (un r2), .int .u32 (un (r3 + (r7 + (rotR r4 6 ^^^ rotR r4 11 ^^^ rotR r4 25) + (r4 &&& r5 ^^^ (r4 ^^^ 4294967295) &&& r6) + kt + wt))), .int .u32 (un r4), .int .u32 (un r5), .int .u32 (un r6)] := ⟨_, rfl⟩
      have G0 : Hid (Blk wD w2.heap.size 155 (rTo ws ⟨s0, s1, s2, s3, s4, s5, s6, s7⟩ (t + 1)).cells) := by
        have h1 : Blk wD w2.heap.size 155 (Array.toList #[.int .u32 (un ((r7 + (rotR r4 6 ^^^ rotR r4 11 ^^^ rotR r4 25) + (r4 &&& r5 ^^^ (r4 ^^^ 4294967295) &&& r6) + kt + wt) + ((rotR r0 2 ^^^ rotR r0 13 ^^^ rotR r0 22) + (r0 &&& r1 ^^^ r0 &&& r2 ^^^ r1 &&& r2)))), .int .u32 (un r0), .int .u32 (un r1), .int .u32 (un r2), .int .u32 (un (r3 + (r7 + (rotR r4 6 ^^^ rotR r4 11 ^^^ rotR r4 25) + (r4 &&& r5 ^^^ (r4 ^^^ 4294967295) &&& r6) + kt + wt))), .int .u32 (un r4), .int .u32 (un r5), .int .u32 (un r6)]) := by rw [hwD]; exact setRow_heap wC w2.heap.size _ _ _ _ hbkC.out
        rw [HR.out]
        rw [← rnd_ref]; exact h1
      have G1 : Hid (∀ b, b < w2.heap.size → wD.heap[b]? = w2.heap[b]?) := by
        intro b hb
        rw [hwD]
        exact (setRow_other wC w2.heap.size b _ (by omega)).trans (by rw [HwC.out]; exact HSM.out b hb)
      have G2 : Hid (Below w.heap.size w wD) := by rw [hwD]; exact below_row HBwC.out hz3 _
      have HWD := Lib.hid hwD; clear hwD
      have HI8 : Hid ((Tryd.prog.info? 155).map (·.size) = some 8) := by show _ = _; kernel_rfl
      go_wp2_with (refine wpList_store_rowW rfl 155 (.tmp 8) (.tmp 103) rfl w2.heap.size #[.int .u32 (un ((r7 + (rotR r4 6 ^^^ rotR r4 11 ^^^ rotR r4 25) + (r4 &&& r5 ^^^ (r4 ^^^ 4294967295) &&& r6) + kt + wt) + ((rotR r0 2 ^^^ rotR r0 13 ^^^ rotR r0 22) + (r0 &&& r1 ^^^ r0 &&& r2 ^^^ r1 &&& r2)))), .int .u32 (un r0), .int .u32 (un r1), .int .u32 (un r2), .int .u32 (un (r3 + (r7 + (rotR r4 6 ^^^ rotR r4 11 ^^^ rotR r4 25) + (r4 &&& r5 ^^^ (r4 ^^^ 4294967295) &&& r6) + kt + wt))), .int .u32 (un r4), .int .u32 (un r5), .int .u32 (un r6)] rfl rfl 155 #[.int .u32 (un r0), .int .u32 (un r1), .int .u32 (un r2), .int .u32 (un r3), .int .u32 (un r4), .int .u32 (un r5), .int .u32 (un r6), .int .u32 (un r7)] hbkC.out (by simp only [List.size_toArray, List.length_cons, List.length_nil]; exact HI8.out) (by simp only [List.size_toArray, List.length_cons, List.length_nil]) (by exact all_one_words [_, r0, r1, r2, _, r4, r5, r6]) wD (by exact HWD.out.symm) ?_)
      clear e5
      go_roundw
      case rel =>
        first
          | exact ⟨t + 1, by omega, by go_num, G0.out, G1.out, G2.out⟩
          | ((repeat apply Exists.intro); exact ⟨⟨t + 1, by omega, by go_num, G0.out, G1.out, G2.out⟩, rfl⟩)
      case measure => simp [intOf]; omega
    · obtain rfl : t = 64 := by omega
      have HM0 : Hid (Blk wr w2.heap.size 155 (mixL (rTo ws ⟨s0, s1, s2, s3, s4, s5, s6, s7⟩ 64).ws ((rTo ws ⟨s0, s1, s2, s3, s4, s5, s6, s7⟩ 64).add ⟨s0, s1, s2, s3, s4, s5, s6, s7⟩).ws 0)) := by rw [mix_zero]; exact hblk
      have HLR : Hid ((rTo ws ⟨s0, s1, s2, s3, s4, s5, s6, s7⟩ 64).ws.length = 8) := rfl
      have HLT : Hid (((rTo ws ⟨s0, s1, s2, s3, s4, s5, s6, s7⟩ 64).add ⟨s0, s1, s2, s3, s4, s5, s6, s7⟩).ws.length = 8) := rfl
      have HAD := Lib.hid (add_at (rTo ws ⟨s0, s1, s2, s3, s4, s5, s6, s7⟩ 64) ⟨s0, s1, s2, s3, s4, s5, s6, s7⟩)
      have HTC : Hid (((rTo ws ⟨s0, s1, s2, s3, s4, s5, s6, s7⟩ 64).add ⟨s0, s1, s2, s3, s4, s5, s6, s7⟩).ws.map u32c = (blockH ⟨s0, s1, s2, s3, s4, s5, s6, s7⟩ l).cells) := by rw [HBH.out]; exact rfl
      have F1 : Hid (Blk wr (w.heap.size + 1) 155 (H8.cells ⟨s0, s1, s2, s3, s4, s5, s6, s7⟩)) := (HSM.out (w.heap.size + 1) (by omega)).trans D1.out
      have F2 : Hid (Blk wr (w.heap.size + 1 + 1) 155 (reps 8 (.int .u32 0))) := (HSM.out (w.heap.size + 1 + 1) (by omega)).trans D2.out
      have hz4 : w.heap.size + 1 + 1 < w2.heap.size := by omega
      clear hblk hz2
      generalize (rTo ws ⟨s0, s1, s2, s3, s4, s5, s6, s7⟩ 64).ws = R at *
      generalize ((rTo ws ⟨s0, s1, s2, s3, s4, s5, s6, s7⟩ 64).add ⟨s0, s1, s2, s3, s4, s5, s6, s7⟩).ws = T at *
      obtain ⟨wo, rfl⟩ : ∃ wo : World, wo = wr := ⟨_, rfl⟩
      go_wp2
      go_loopw [14] (fun i wr => ∃ k : Nat, k ≤ 8 ∧ i = .int .i64 k ∧ Blk wr w2.heap.size 155 (mixL R T k) ∧ Blk wr (w.heap.size + 1) 155 (H8.cells ⟨s0, s1, s2, s3, s4, s5, s6, s7⟩) ∧ Blk wr (w.heap.size + 1 + 1) 155 (reps 8 (.int .u32 0)) ∧ Below w.heap.size w wr) (fun i _ => 8 - (intOf i).toNat)
      case atStart => exact ⟨0, by omega, rfl, HM0.out, F1.out, F2.out, hbel⟩
      case round =>
        obtain ⟨k, hk, rfl, hblk, hb1, hb2, hbel⟩ := hrel
        have F0 := Lib.hid hblk; have F1 := Lib.hid hb1; have F2 := Lib.hid hb2
        by_cases hlt2 : k < 8
        · have c1 : wr.cell? ⟨w2.heap.size, k, none⟩ = some (.int .u32 (un (R.getD k 0))) := by rw [hblk.cell]; exact mix_at R T HLR.out HLT.out k hlt2
          have c2 : wr.cell? ⟨w.heap.size + 1, k, none⟩ = some (.int .u32 (un (H8.ws ⟨s0, s1, s2, s3, s4, s5, s6, s7⟩ |>.getD k 0))) := by rw [hb1.cell]; exact ws_cell _ k hlt2
          have hf := hblk.free k
          have HS := Lib.hid (mix_set R T HLR.out HLT.out k hlt2)
          rw [HAD.out k hlt2] at HS
          generalize R.getD k 0 = x at *
          generalize (H8.ws ⟨s0, s1, s2, s3, s4, s5, s6, s7⟩ |>.getD k 0) = y at *
          have p0 : (0 : Int) ≤ (k : Int) := by omega
          have q0 : (k : Int) < 8 := by omega
          have e1 := w_add
          clear hblk hb1 hb2
          go_wp2
          go_region
          all_goals
            go_wp2
            go_roundw
            case rel =>
              first
                | exact ⟨k + 1, by omega, by go_num, by rw [← HS.out]; exact F0.out.set k _, F1.out.far (p := ⟨w2.heap.size, k, none⟩) (by simp; omega) _, F2.out.far (p := ⟨w2.heap.size, k, none⟩) (by simp; omega) _, (hbel.setCell (p := ⟨w2.heap.size, k, none⟩) hz3 _).trans ⟨rfl, rfl, rfl, Nat.le_refl _, fun _ _ => rfl⟩⟩
                | ((repeat apply Exists.intro); exact ⟨⟨k + 1, by omega, by go_num, by rw [← HS.out]; exact F0.out.set k _, F1.out.far (p := ⟨w2.heap.size, k, none⟩) (by simp; omega) _, F2.out.far (p := ⟨w2.heap.size, k, none⟩) (by simp; omega) _, (hbel.setCell (p := ⟨w2.heap.size, k, none⟩) hz3 _).trans ⟨rfl, rfl, rfl, Nat.le_refl _, fun _ _ => rfl⟩⟩, rfl⟩)
            case measure => simp [intOf]; omega
        · obtain rfl : k = 8 := by omega
          have HLL : Hid ((mixL R T 8).length = 8) := by rw [mix_all R T HLR.out HLT.out, List.length_map]; exact HLT.out
          have HRES : Hid (mixL R T 8 = (blockH ⟨s0, s1, s2, s3, s4, s5, s6, s7⟩ l).cells) := (mix_all R T HLR.out HLT.out).trans HTC.out
          have HONE : Hid ((mixL R T 8).toArray.all (·.oneCell') = true) := by rw [HRES.out]; exact all_one_words _
          have HNEW : Hid ((wr.setRow (w.heap.size + 1 + 1) (mixL R T 8).toArray).heap[w.heap.size + 1 + 1]? = some (.cells (mixL R T 8).toArray 155 (0, 0))) := setRow_heap wr (w.heap.size + 1 + 1) _ _ _ _ F2.out
          have HBW : Hid (Below w.heap.size w (wr.setRow (w.heap.size + 1 + 1) (mixL R T 8).toArray)) := below_row hbel (by omega) _
          clear hblk hb1 hb2
          go_wp2_with (first
            | (refine wpList_load_row rfl 155 (.tmp 8) rfl w2.heap.size rfl 155 (mixL R T 8).toArray (0, 0) _ F0.out Tryd.underlying155 rfl (by rw [List.size_toArray, HLL.out]; kernel_rfl) ?_)
            | (refine wpList_store_row rfl 155 (.tmp 6) (.tmp 117) rfl (w.heap.size + 1 + 1) (mixL R T 8).toArray rfl rfl 155 (reps 8 (.int .u32 0)).toArray F2.out (by rw [List.size_toArray, HLL.out]; kernel_rfl) (by rw [List.size_toArray, List.size_toArray, HLL.out]; rfl) HONE.out ?_))
          exact bodyPost_ret (v := .agg (mixL R T 8).toArray) (results_cell_row Tryd.results124 _ _ (w.heap.size + 1 + 1) 155 _ (0, 0) _ rfl HNEW.out Tryd.underlying155 rfl (by rw [List.size_toArray, HLL.out]; kernel_rfl)) rfl ⟨by rw [HRES.out], HBW.out⟩
theorem with_any (KS : Array Value) (hKS : Tab64 KS) (s : H8) (A : Option Addr) (c : Nat) (l : List UInt8) (w : World) (h : Bs w A 64 c l) :
    Calls Tryd.prog 124 #[.agg KS, .agg s.cells.toArray, .slice A 64 c] w fun e w' => e = .returned (.agg (blockH s l).cells.toArray) ∧ Below w.heap.size w w' :=
  with_core KS hKS s.a s.b s.c s.d s.e s.f s.g s.h A c l w h
end Go.Proofs.YtbmijjodpdbbmaaDoor
