/- Own texts of this claim, one behind the other. No condition. -/
import Derived.Test.YtcfbbgbjlgonpaaGreatDoorObPkAC
import Derived.Test.YtcfbbgbjlgonpaaGreatDoorObPkAE
import Derived.Test.YtcfbbgbjlgonpaaGreatDoorObPkAF
import Derived.RangeFuncNested
import Derived.RangeFuncBound
import Derived.RangeFuncCalls
import Derived.RangeFuncLeaves
import Derived.Shelf.Abstract
import Derived.Shelf.RegionOpen
import Derived.WalkKit
import Derived.OwnWalkIn
import Derived.TacticsInMore
import Derived.LoopNIn
import Derived.LoopIn

/- ObShaR, ObShaS, ObShaC, ObShaD: one text. No condition. -/
namespace Go.Proofs.YtcfbbgbjlgonpaaGreatDoor
open Go.RowKit
set_option linter.unusedVariables false

/-- An array of 64 words, each known. -/
structure Tab64 (KS : Array Value) : Prop where
  size : KS.size = 64
  look : ∀ t, t < 64 → KS[t]? = some (.int .u32 (un (kT t)))
theorem tab_words (ws : List UInt32) (hl : ws.length = 64) : (ws.map u32c).toArray.size = 64 := by simp [hl]

theorem wpList_store_rowW {P : Program} {ops : Array Oper} {rest : List Oper} {o : Oper} {a : Act} {w : World} {Q : Exit → Act → World → Prop} (hgd : o.guard = none) (ty : TypeId) (x y : Operand) (ho : o.op = .store ty x y)
    (g : Nat) (cells : Array Value) (hx : a.eval x = .pointer (some ⟨g, 0, none⟩)) (hy : a.eval y = .agg cells)
    (t : TypeId) (old : Array Value) (hg : w.heap[g]? = some (.cells old t (0, 0))) (hi : (P.info? ty).map (·.size) = some cells.size)
    (hold : old.size = cells.size) (h1 : cells.all (·.oneCell') = true) (W : World) (hW : w.setRow g cells = W)
    (h : wpList P ops Q rest (a.put o.dst undef) W) : wpList P ops Q (o :: rest) a w := wpList_store_row hgd ty x y ho g cells hx hy t old hg hi hold h1 (by rw [hW]; exact h)
set_option maxRecDepth 100000 in
set_option maxHeartbeats 1000000 in
theorem with_core (KS : Array Value) (hKS : Tab64 KS) (s0 s1 s2 s3 s4 s5 s6 s7 : UInt32) (A : Option Addr) (c : Nat) (l : List UInt8) (w : World) (h : Bs w A 64 c l) :
    Calls Tryz.prog 180 #[.agg KS, .agg #[.int .u32 (un s0), .int .u32 (un s1), .int .u32 (un s2), .int .u32 (un s3), .int .u32 (un s4), .int .u32 (un s5), .int .u32 (un s6), .int .u32 (un s7)], .slice A 64 c] w fun e w' => e = .returned (.agg (blockH ⟨s0, s1, s2, s3, s4, s5, s6, s7⟩ l).cells.toArray) ∧ Below w.heap.size w w' := by
  have hcap := h.cap
  have hmax := h.max
  have HH := Lib.hid h; have HKS := Lib.hid hKS; clear h hKS
  obtain ⟨wl, hwl⟩ : ∃ wl, wl = ((w.alloc (.cells KS 187)).alloc (.cells #[.int .u32 (un s0), .int .u32 (un s1), .int .u32 (un s2), .int .u32 (un s3), .int .u32 (un s4), .int .u32 (un s5), .int .u32 (un s6), .int .u32 (un s7)] 174)).alloc (.cells #[.int .u32 0, .int .u32 0, .int .u32 0, .int .u32 0, .int .u32 0, .int .u32 0, .int .u32 0, .int .u32 0] 174) := ⟨_, rfl⟩
  have HWL := Lib.hid hwl; clear hwl
  go_enter Tryz.func180, Tryz.ntmps180
  go_wp2_with fail
  rw [← HWL.out]
  have hz0 : wl.heap.size = w.heap.size + 1 + 1 + 1 := by rw [HWL.out]; simp
  have B0 : Hid (Blk wl w.heap.size 187 KS.toList) := by
    rw [HWL.out]; exact ((Blk.new w 187 KS).alloc _).alloc _
  have B1 : Hid (Blk wl (w.heap.size + 1) 174 (H8.cells ⟨s0, s1, s2, s3, s4, s5, s6, s7⟩)) := by
    rw [HWL.out]; exact Blk.alloc (cs := H8.cells ⟨s0, s1, s2, s3, s4, s5, s6, s7⟩) (heap_alloc2_new w _ _) _
  have B2 : Hid (Blk wl (w.heap.size + 1 + 1) 174 (reps 8 (.int .u32 0))) := by
    rw [HWL.out]
    have := heap_alloc2_new (w.alloc (.cells KS 187)) (.cells #[.int .u32 (un s0), .int .u32 (un s1), .int .u32 (un s2), .int .u32 (un s3), .int .u32 (un s4), .int .u32 (un s5), .int .u32 (un s6), .int .u32 (un s7)] 174) (.cells #[.int .u32 0, .int .u32 0, .int .u32 0, .int .u32 0, .int .u32 0, .int .u32 0, .int .u32 0, .int .u32 0] 174)
    rw [show (w.alloc (.cells KS 187)).heap.size = w.heap.size + 1 by simp] at this
    exact this
  have hbl : Below w.heap.size w wl := by rw [HWL.out]; exact (((Below.refl _ _).alloc (Nat.le_refl _) _).alloc (by simp) _).alloc (by simp; omega) _
  refine (refWords_any A c l wl (HH.out.mono hbl)).mono ?_
  rintro e w1 ⟨rfl, b1⟩
  have HB1 := Lib.hid (below_both hbl b1)
  have hz1 : w.heap.size + 1 + 1 + 1 ≤ w1.heap.size := by have := b1.size; omega
  have C0 := Lib.hid (B0.out.mono b1); have C1 := Lib.hid (B1.out.mono b1); have C2 := Lib.hid (B2.out.mono b1)
  clear hbl b1 hz0 B0 B1 B2
  have HWS := Lib.hid (tab_words (wTo l 64) (wTo_len l 64))
  have HWA : Hid (∀ t, t < 64 → (((wTo l 64).map u32c).toArray)[t]? = some (.int .u32 (un ((wTo l 64).getD t 0)))) := by
    intro t ht
    have hl := wTo_len l 64
    rw [List.getElem?_toArray, List.getElem?_map, List.getElem?_eq_getElem (by omega), List.getD_eq_getElem?_getD, List.getElem?_eq_getElem (by omega)]
    rfl
  have HWO := Lib.hid (all_one_words (wTo l 64))
  have HBH : Hid (blockH ⟨s0, s1, s2, s3, s4, s5, s6, s7⟩ l = (rTo (wTo l 64) ⟨s0, s1, s2, s3, s4, s5, s6, s7⟩ 64).add ⟨s0, s1, s2, s3, s4, s5, s6, s7⟩) := rfl
  generalize ((wTo l 64).map u32c).toArray = WS at *
  generalize wTo l 64 = ws at *
  obtain ⟨w2, hw2⟩ : ∃ w2, w2 = (w1.alloc (.cells (reps 64 (.int .u32 0)).toArray 187)).setRow w1.heap.size WS := ⟨_, rfl⟩
  have hz2 : w2.heap.size = w1.heap.size + 1 := by rw [hw2]; simp [World.setRow]
  have hoth : ∀ b, b < w1.heap.size → w2.heap[b]? = w1.heap[b]? := fun b hb => by
    rw [hw2]; exact (setRow_other (w1.alloc _) w1.heap.size b _ (by omega)).trans (heap_alloc_old w1 _ hb)
  have D0 : Hid (Blk w2 w.heap.size 187 KS.toList) := (hoth _ (by omega)).trans C0.out
  have D1 : Hid (Blk w2 (w.heap.size + 1) 174 (H8.cells ⟨s0, s1, s2, s3, s4, s5, s6, s7⟩)) := (hoth _ (by omega)).trans C1.out
  have D2 : Hid (Blk w2 (w.heap.size + 1 + 1) 174 (reps 8 (.int .u32 0))) := (hoth _ (by omega)).trans C2.out
  have D3 : Hid (Blk w2 w1.heap.size 187 WS.toList) := by
    rw [hw2]; exact setRow_heap (w1.alloc _) w1.heap.size _ _ _ _ (heap_alloc_new w1 _)
  have HB2 : Hid (Below w.heap.size w w2) := by rw [hw2]; exact below_row (HB1.out.alloc (by omega) _) (by omega) _
  have HW2 := Lib.hid hw2; clear hw2 hoth
  have c0 : w2.cell? ⟨w.heap.size + 1, 0, none⟩ = some (.int .u32 (un s0)) := by rw [D1.out.cell]; rfl
  have c1 : w2.cell? ⟨w.heap.size + 1, 1, none⟩ = some (.int .u32 (un s1)) := by rw [D1.out.cell]; rfl
  have c2 : w2.cell? ⟨w.heap.size + 1, 2, none⟩ = some (.int .u32 (un s2)) := by rw [D1.out.cell]; rfl
  have c3 : w2.cell? ⟨w.heap.size + 1, 3, none⟩ = some (.int .u32 (un s3)) := by rw [D1.out.cell]; rfl
  have c4 : w2.cell? ⟨w.heap.size + 1, 4, none⟩ = some (.int .u32 (un s4)) := by rw [D1.out.cell]; rfl
  have c5 : w2.cell? ⟨w.heap.size + 1, 5, none⟩ = some (.int .u32 (un s5)) := by rw [D1.out.cell]; rfl
  have c6 : w2.cell? ⟨w.heap.size + 1, 6, none⟩ = some (.int .u32 (un s6)) := by rw [D1.out.cell]; rfl
  have c7 : w2.cell? ⟨w.heap.size + 1, 7, none⟩ = some (.int .u32 (un s7)) := by rw [D1.out.cell]; rfl
  have HZ2 := Lib.hid hz2; clear hz2
  go_wp2_with (refine wpList_store_rowW rfl 187 (.tmp 7) (.tmp 20) rfl w1.heap.size WS rfl rfl 187 (reps 64 (.int .u32 0)).toArray (by exact heap_alloc_new w1 _) (by rw [HWS.out]; kernel_rfl) (by rw [HWS.out]; rfl) HWO.out w2 (by exact HW2.out.symm) ?_)
  have hz3 : w.heap.size ≤ w2.heap.size := by have := HZ2.out; omega
  have E0 : Hid (Blk (w2.alloc (.cells #[.int .u32 (un s0), .int .u32 (un s1), .int .u32 (un s2), .int .u32 (un s3), .int .u32 (un s4), .int .u32 (un s5), .int .u32 (un s6), .int .u32 (un s7)] 174)) w2.heap.size 174 (rTo ws ⟨s0, s1, s2, s3, s4, s5, s6, s7⟩ 0).cells) := Blk.new w2 _ _
  clear c0 c1 c2 c3 c4 c5 c6 c7
  go_loopw [9] (fun i wr => ∃ t : Nat, t ≤ 64 ∧ i = .int .i64 t ∧ Blk wr w2.heap.size 174 (rTo ws ⟨s0, s1, s2, s3, s4, s5, s6, s7⟩ t).cells ∧ (∀ b, b < w2.heap.size → wr.heap[b]? = w2.heap[b]?) ∧ Below w.heap.size w wr) (fun i _ => 64 - (intOf i).toNat)
  case atStart => exact ⟨0, by omega, rfl, E0.out, fun b hb => heap_alloc_old w2 _ hb, HB2.out.alloc hz3 _⟩
  case round =>
    obtain ⟨t, ht, rfl, hblk, hsame, hbel⟩ := hrel
    have HSM := Lib.hid hsame; clear hsame
    have hz2 := HZ2.out
    by_cases hlt : t < 64
    · have HR : Hid (rTo ws ⟨s0, s1, s2, s3, s4, s5, s6, s7⟩ (t + 1) = rnd (kT t) (ws.getD t 0) (rTo ws ⟨s0, s1, s2, s3, s4, s5, s6, s7⟩ t)) := rfl
      have kc : wr.cell? ⟨w.heap.size, t, none⟩ = some (.int .u32 (un (kT t))) := by
        rw [World.cell?_of_block (HSM.out w.heap.size (by omega)), D0.out.cell, Array.getElem?_toList]; exact HKS.out.look t hlt
      have wc : wr.cell? ⟨w1.heap.size, t, none⟩ = some (.int .u32 (un (ws.getD t 0))) := by
        rw [World.cell?_of_block (HSM.out w1.heap.size (by omega)), D3.out.cell, Array.getElem?_toList]; exact HWA.out t hlt
      generalize rTo ws ⟨s0, s1, s2, s3, s4, s5, s6, s7⟩ t = r at *
      generalize kT t = kt at *
      generalize ws.getD t 0 = wt at *
      obtain ⟨r0, r1, r2, r3, r4, r5, r6, r7⟩ := r
      have F0 := Lib.hid hblk
      have c0 : wr.cell? ⟨w2.heap.size, 0, none⟩ = some (.int .u32 (un r0)) := by rw [hblk.cell]; rfl
      have c1 : wr.cell? ⟨w2.heap.size, 1, none⟩ = some (.int .u32 (un r1)) := by rw [hblk.cell]; rfl
      have c2 : wr.cell? ⟨w2.heap.size, 2, none⟩ = some (.int .u32 (un r2)) := by rw [hblk.cell]; rfl
      have c3 : wr.cell? ⟨w2.heap.size, 3, none⟩ = some (.int .u32 (un r3)) := by rw [hblk.cell]; rfl
      have c4 : wr.cell? ⟨w2.heap.size, 4, none⟩ = some (.int .u32 (un r4)) := by rw [hblk.cell]; rfl
      have c5 : wr.cell? ⟨w2.heap.size, 5, none⟩ = some (.int .u32 (un r5)) := by rw [hblk.cell]; rfl
      have c6 : wr.cell? ⟨w2.heap.size, 6, none⟩ = some (.int .u32 (un r6)) := by rw [hblk.cell]; rfl
      have c7 : wr.cell? ⟨w2.heap.size, 7, none⟩ = some (.int .u32 (un r7)) := by rw [hblk.cell]; rfl
      have p0 : (0 : Int) ≤ (t : Int) := by omega
      have q0 : (t : Int) < 64 := by omega
      have CE : Hid (∀ (W : World), W.heap = wr.heap → ∀ (b i : Nat) (v : Value), wr.cell? ⟨b, i, none⟩ = some v → W.cell? ⟨b, i, none⟩ = some v) := fun W e b i v h => (World.cell?_of_block (by rw [e])).trans h
      clear hblk hz2
      have e1 := w_add
      have e2 := w_xor
      have e3 := w_and
      have e4 := w_or
      have e6 := w_not
      go_wp2
      go_quiet (fail)
      obtain ⟨wA, hre⟩ : ∃ W0, W0 = (wr).drewN nq := ⟨_, rfl⟩
      rw [← hre]
      have HwA : Hid (wA.heap = wr.heap) := by rw [hre]; exact rfl
      have HBwA : Hid (Below w.heap.size w wA) := by rw [hre]; exact belowN hbel _
      clear hre
      have kcwA := CE.out wA HwA.out _ _ _ kc
      have wcwA := CE.out wA HwA.out _ _ _ wc
      have c0wA := CE.out wA HwA.out _ _ _ c0
      have c1wA := CE.out wA HwA.out _ _ _ c1
      have c2wA := CE.out wA HwA.out _ _ _ c2
      have c3wA := CE.out wA HwA.out _ _ _ c3
      have c4wA := CE.out wA HwA.out _ _ _ c4
      have c5wA := CE.out wA HwA.out _ _ _ c5
      have c6wA := CE.out wA HwA.out _ _ _ c6
      have c7wA := CE.out wA HwA.out _ _ _ c7
      go_wp2
      go_quiet ((first | (go_at_call 198; with_reducible exact quiet_rd (refRight6_any r4 _)) | (go_at_call 198; with_reducible exact quiet_rd (refRight11_any r4 _)) | (go_at_call 198; with_reducible exact quiet_rd (refRight25_any r4 _))))
      clear kcwA wcwA c0wA c1wA c2wA c3wA c4wA c5wA c6wA c7wA
      obtain ⟨wB, hre⟩ : ∃ W0, W0 = (wA).drewN nq := ⟨_, rfl⟩
      rw [← hre]
      have HwB : Hid (wB.heap = wr.heap) := by rw [hre]; exact HwA.out
      have HBwB : Hid (Below w.heap.size w wB) := by rw [hre]; exact belowN HBwA.out _
      clear hre
      have kcwB := CE.out wB HwB.out _ _ _ kc
      have wcwB := CE.out wB HwB.out _ _ _ wc
      have c0wB := CE.out wB HwB.out _ _ _ c0
      have c1wB := CE.out wB HwB.out _ _ _ c1
      have c2wB := CE.out wB HwB.out _ _ _ c2
      have c3wB := CE.out wB HwB.out _ _ _ c3
      have c4wB := CE.out wB HwB.out _ _ _ c4
      have c5wB := CE.out wB HwB.out _ _ _ c5
      have c6wB := CE.out wB HwB.out _ _ _ c6
      have c7wB := CE.out wB HwB.out _ _ _ c7
      go_wp2
      go_quiet ((first | (go_at_call 198; with_reducible exact quiet_rd (refRight2_any r0 _)) | (go_at_call 198; with_reducible exact quiet_rd (refRight13_any r0 _)) | (go_at_call 198; with_reducible exact quiet_rd (refRight22_any r0 _))))
      clear kcwB wcwB c0wB c1wB c2wB c3wB c4wB c5wB c6wB c7wB
      obtain ⟨wC, hre⟩ : ∃ W0, W0 = (wB).drewN nq := ⟨_, rfl⟩
      rw [← hre]
      have HwC : Hid (wC.heap = wr.heap) := by rw [hre]; exact HwB.out
      have HBwC : Hid (Below w.heap.size w wC) := by rw [hre]; exact belowN HBwB.out _
      clear hre
      have kcwC := CE.out wC HwC.out _ _ _ kc
      have wcwC := CE.out wC HwC.out _ _ _ wc
      have c0wC := CE.out wC HwC.out _ _ _ c0
      have c1wC := CE.out wC HwC.out _ _ _ c1
      have c2wC := CE.out wC HwC.out _ _ _ c2
      have c3wC := CE.out wC HwC.out _ _ _ c3
      have c4wC := CE.out wC HwC.out _ _ _ c4
      have c5wC := CE.out wC HwC.out _ _ _ c5
      have c6wC := CE.out wC HwC.out _ _ _ c6
      have c7wC := CE.out wC HwC.out _ _ _ c7
      clear kc wc c0 c1 c2 c3 c4 c5 c6 c7 kcwC wcwC e6
      have hbkC : Hid (wC.heap[w2.heap.size]? = some (.cells #[.int .u32 (un r0), .int .u32 (un r1), .int .u32 (un r2), .int .u32 (un r3), .int .u32 (un r4), .int .u32 (un r5), .int .u32 (un r6), .int .u32 (un r7)] 174 (0, 0))) := by rw [HwC.out]; exact F0.out
      have e5 := w_add'
      obtain ⟨wD, hwD⟩ : ∃ wD, wD = wC.setRow w2.heap.size #[.int .u32 (un ((r7 + (rotR r4 6 ^^^ rotR r4 11 ^^^ rotR r4 25) + (r4 &&& r5 ^^^ (r4 ^^^ 4294967295) &&& r6) + kt + wt) + ((rotR r0 2 ^^^ rotR r0 13 ^^^ rotR r0 22) + (r0 &&& r1 ^^^ r0 &&& r2 ^^^ r1 &&& r2)))), .int .u32 (un r0), .int .u32 (un r1), .int .u32 (un r2), .int .u32 (un (r3 + (r7 + (rotR r4 6 ^^^ rotR r4 11 ^^^ rotR r4 25) + (r4 &&& r5 ^^^ (r4 ^^^ 4294967295) &&& r6) + kt + wt))), .int .u32 (un r4), .int .u32 (un r5), .int .u32 (un r6)] := ⟨_, rfl⟩
      have G0 : Hid (Blk wD w2.heap.size 174 (rTo ws ⟨s0, s1, s2, s3, s4, s5, s6, s7⟩ (t + 1)).cells) := by
        have h1 : Blk wD w2.heap.size 174 (Array.toList #[.int .u32 (un ((r7 + (rotR r4 6 ^^^ rotR r4 11 ^^^ rotR r4 25) + (r4 &&& r5 ^^^ (r4 ^^^ 4294967295) &&& r6) + kt + wt) + ((rotR r0 2 ^^^ rotR r0 13 ^^^ rotR r0 22) + (r0 &&& r1 ^^^ r0 &&& r2 ^^^ r1 &&& r2)))), .int .u32 (un r0), .int .u32 (un r1), .int .u32 (un r2), .int .u32 (un (r3 + (r7 + (rotR r4 6 ^^^ rotR r4 11 ^^^ rotR r4 25) + (r4 &&& r5 ^^^ (r4 ^^^ 4294967295) &&& r6) + kt + wt))), .int .u32 (un r4), .int .u32 (un r5), .int .u32 (un r6)]) := by rw [hwD]; exact setRow_heap wC w2.heap.size _ _ _ _ hbkC.out
        rw [HR.out]
        rw [← rnd_ref]; exact h1
      have G1 : Hid (∀ b, b < w2.heap.size → wD.heap[b]? = w2.heap[b]?) := by
        intro b hb
        rw [hwD]
        exact (setRow_other wC w2.heap.size b _ (by omega)).trans (by rw [HwC.out]; exact HSM.out b hb)
      have G2 : Hid (Below w.heap.size w wD) := by rw [hwD]; exact below_row HBwC.out hz3 _
      have HWD := Lib.hid hwD; clear hwD
      have HI8 : Hid ((Tryz.prog.info? 174).map (·.size) = some 8) := by show _ = _; kernel_rfl
      go_wp2_with (refine wpList_store_rowW rfl 174 (.tmp 8) (.tmp 103) rfl w2.heap.size #[.int .u32 (un ((r7 + (rotR r4 6 ^^^ rotR r4 11 ^^^ rotR r4 25) + (r4 &&& r5 ^^^ (r4 ^^^ 4294967295) &&& r6) + kt + wt) + ((rotR r0 2 ^^^ rotR r0 13 ^^^ rotR r0 22) + (r0 &&& r1 ^^^ r0 &&& r2 ^^^ r1 &&& r2)))), .int .u32 (un r0), .int .u32 (un r1), .int .u32 (un r2), .int .u32 (un (r3 + (r7 + (rotR r4 6 ^^^ rotR r4 11 ^^^ rotR r4 25) + (r4 &&& r5 ^^^ (r4 ^^^ 4294967295) &&& r6) + kt + wt))), .int .u32 (un r4), .int .u32 (un r5), .int .u32 (un r6)] rfl rfl 174 #[.int .u32 (un r0), .int .u32 (un r1), .int .u32 (un r2), .int .u32 (un r3), .int .u32 (un r4), .int .u32 (un r5), .int .u32 (un r6), .int .u32 (un r7)] hbkC.out (by simp only [List.size_toArray, List.length_cons, List.length_nil]; exact HI8.out) (by simp only [List.size_toArray, List.length_cons, List.length_nil]) (by exact all_one_words [_, r0, r1, r2, _, r4, r5, r6]) wD (by exact HWD.out.symm) ?_)
      clear e5
      go_roundw
      case rel =>
        first
          | exact ⟨t + 1, by omega, by go_num, G0.out, G1.out, G2.out⟩
          | ((repeat apply Exists.intro); exact ⟨⟨t + 1, by omega, by go_num, G0.out, G1.out, G2.out⟩, rfl⟩)
      case measure => simp [intOf]; omega
    · obtain rfl : t = 64 := by omega
      have HM0 : Hid (Blk wr w2.heap.size 174 (mixL (rTo ws ⟨s0, s1, s2, s3, s4, s5, s6, s7⟩ 64).ws ((rTo ws ⟨s0, s1, s2, s3, s4, s5, s6, s7⟩ 64).add ⟨s0, s1, s2, s3, s4, s5, s6, s7⟩).ws 0)) := by rw [mix_zero]; exact hblk
      have HLR : Hid ((rTo ws ⟨s0, s1, s2, s3, s4, s5, s6, s7⟩ 64).ws.length = 8) := rfl
      have HLT : Hid (((rTo ws ⟨s0, s1, s2, s3, s4, s5, s6, s7⟩ 64).add ⟨s0, s1, s2, s3, s4, s5, s6, s7⟩).ws.length = 8) := rfl
      have HAD := Lib.hid (add_at (rTo ws ⟨s0, s1, s2, s3, s4, s5, s6, s7⟩ 64) ⟨s0, s1, s2, s3, s4, s5, s6, s7⟩)
      have HTC : Hid (((rTo ws ⟨s0, s1, s2, s3, s4, s5, s6, s7⟩ 64).add ⟨s0, s1, s2, s3, s4, s5, s6, s7⟩).ws.map u32c = (blockH ⟨s0, s1, s2, s3, s4, s5, s6, s7⟩ l).cells) := by rw [HBH.out]; exact rfl
      have F1 : Hid (Blk wr (w.heap.size + 1) 174 (H8.cells ⟨s0, s1, s2, s3, s4, s5, s6, s7⟩)) := (HSM.out (w.heap.size + 1) (by omega)).trans D1.out
      have F2 : Hid (Blk wr (w.heap.size + 1 + 1) 174 (reps 8 (.int .u32 0))) := (HSM.out (w.heap.size + 1 + 1) (by omega)).trans D2.out
      have hz4 : w.heap.size + 1 + 1 < w2.heap.size := by omega
      clear hblk hz2
      generalize (rTo ws ⟨s0, s1, s2, s3, s4, s5, s6, s7⟩ 64).ws = R at *
      generalize ((rTo ws ⟨s0, s1, s2, s3, s4, s5, s6, s7⟩ 64).add ⟨s0, s1, s2, s3, s4, s5, s6, s7⟩).ws = T at *
      obtain ⟨wo, rfl⟩ : ∃ wo : World, wo = wr := ⟨_, rfl⟩
      go_wp2
      go_loopw [14] (fun i wr => ∃ k : Nat, k ≤ 8 ∧ i = .int .i64 k ∧ Blk wr w2.heap.size 174 (mixL R T k) ∧ Blk wr (w.heap.size + 1) 174 (H8.cells ⟨s0, s1, s2, s3, s4, s5, s6, s7⟩) ∧ Blk wr (w.heap.size + 1 + 1) 174 (reps 8 (.int .u32 0)) ∧ Below w.heap.size w wr) (fun i _ => 8 - (intOf i).toNat)
      case atStart => exact ⟨0, by omega, rfl, HM0.out, F1.out, F2.out, hbel⟩
      case round =>
        obtain ⟨k, hk, rfl, hblk, hb1, hb2, hbel⟩ := hrel
        have F0 := Lib.hid hblk; have F1 := Lib.hid hb1; have F2 := Lib.hid hb2
        by_cases hlt2 : k < 8
        · have c1 : wr.cell? ⟨w2.heap.size, k, none⟩ = some (.int .u32 (un (R.getD k 0))) := by rw [hblk.cell]; exact mix_at R T HLR.out HLT.out k hlt2
          have c2 : wr.cell? ⟨w.heap.size + 1, k, none⟩ = some (.int .u32 (un (H8.ws ⟨s0, s1, s2, s3, s4, s5, s6, s7⟩ |>.getD k 0))) := by rw [hb1.cell]; exact ws_cell _ k hlt2
          have hf := hblk.free k
          have HS := Lib.hid (mix_set R T HLR.out HLT.out k hlt2)
          rw [HAD.out k hlt2] at HS
          generalize R.getD k 0 = x at *
          generalize (H8.ws ⟨s0, s1, s2, s3, s4, s5, s6, s7⟩ |>.getD k 0) = y at *
          have p0 : (0 : Int) ≤ (k : Int) := by omega
          have q0 : (k : Int) < 8 := by omega
          have e1 := w_add
          clear hblk hb1 hb2
          go_wp2
          go_region
          all_goals
            go_wp2
            go_roundw
            case rel =>
              first
                | exact ⟨k + 1, by omega, by go_num, by rw [← HS.out]; exact F0.out.set k _, F1.out.far (p := ⟨w2.heap.size, k, none⟩) (by simp; omega) _, F2.out.far (p := ⟨w2.heap.size, k, none⟩) (by simp; omega) _, (hbel.setCell (p := ⟨w2.heap.size, k, none⟩) hz3 _).trans ⟨rfl, rfl, rfl, Nat.le_refl _, fun _ _ => rfl⟩⟩
                | ((repeat apply Exists.intro); exact ⟨⟨k + 1, by omega, by go_num, by rw [← HS.out]; exact F0.out.set k _, F1.out.far (p := ⟨w2.heap.size, k, none⟩) (by simp; omega) _, F2.out.far (p := ⟨w2.heap.size, k, none⟩) (by simp; omega) _, (hbel.setCell (p := ⟨w2.heap.size, k, none⟩) hz3 _).trans ⟨rfl, rfl, rfl, Nat.le_refl _, fun _ _ => rfl⟩⟩, rfl⟩)
            case measure => simp [intOf]; omega
        · obtain rfl : k = 8 := by omega
          have HLL : Hid ((mixL R T 8).length = 8) := by rw [mix_all R T HLR.out HLT.out, List.length_map]; exact HLT.out
          have HRES : Hid (mixL R T 8 = (blockH ⟨s0, s1, s2, s3, s4, s5, s6, s7⟩ l).cells) := (mix_all R T HLR.out HLT.out).trans HTC.out
          have HONE : Hid ((mixL R T 8).toArray.all (·.oneCell') = true) := by rw [HRES.out]; exact all_one_words _
          have HNEW : Hid ((wr.setRow (w.heap.size + 1 + 1) (mixL R T 8).toArray).heap[w.heap.size + 1 + 1]? = some (.cells (mixL R T 8).toArray 174 (0, 0))) := setRow_heap wr (w.heap.size + 1 + 1) _ _ _ _ F2.out
          have HBW : Hid (Below w.heap.size w (wr.setRow (w.heap.size + 1 + 1) (mixL R T 8).toArray)) := below_row hbel (by omega) _
          clear hblk hb1 hb2
          go_wp2_with (first
            | (refine wpList_load_row rfl 174 (.tmp 8) rfl w2.heap.size rfl 174 (mixL R T 8).toArray (0, 0) _ F0.out Tryz.underlying174 rfl (by rw [List.size_toArray, HLL.out]; kernel_rfl) ?_)
            | (refine wpList_store_row rfl 174 (.tmp 6) (.tmp 117) rfl (w.heap.size + 1 + 1) (mixL R T 8).toArray rfl rfl 174 (reps 8 (.int .u32 0)).toArray F2.out (by rw [List.size_toArray, HLL.out]; kernel_rfl) (by rw [List.size_toArray, List.size_toArray, HLL.out]; rfl) HONE.out ?_))
          exact bodyPost_ret (v := .agg (mixL R T 8).toArray) (results_cell_row Tryz.results180 _ _ (w.heap.size + 1 + 1) 174 _ (0, 0) _ rfl HNEW.out Tryz.underlying174 rfl (by rw [List.size_toArray, HLL.out]; kernel_rfl)) rfl ⟨by rw [HRES.out], HBW.out⟩
theorem with_any (KS : Array Value) (hKS : Tab64 KS) (s : H8) (A : Option Addr) (c : Nat) (l : List UInt8) (w : World) (h : Bs w A 64 c l) :
    Calls Tryz.prog 180 #[.agg KS, .agg s.cells.toArray, .slice A 64 c] w fun e w' => e = .returned (.agg (blockH s l).cells.toArray) ∧ Below w.heap.size w w' :=
  with_core KS hKS s.a s.b s.c s.d s.e s.f s.g s.h A c l w h
end Go.Proofs.YtcfbbgbjlgonpaaGreatDoor
namespace Go.Proofs.YtcfbbgbjlgonpaaGreatDoor
open Go.RowKit
set_option linter.unusedVariables false

/-! ### what fills up -/
def padZ (n : Nat) : Nat := (119 - n % 64) % 64
def padB (n : Nat) : List UInt8 := 128 :: (List.replicate (padZ n) 0 ++ be (n * 8) 8)
theorem padB_len (n : Nat) : (padB n).length = padZ n + 9 := by simp [padB, be_length]
theorem padZ_lt (n : Nat) : padZ n < 64 := Nat.mod_lt _ (by decide)
theorem pad_whole (n : Nat) : (n + (padZ n + 9)) % 64 = 0 := by unfold padZ; omega
theorem run_mk2 {P : Program} {t e : TypeId} {z : Value} {bytes : Nat} (ht : ElemT P t e z 1 bytes) (hz1 : z.cells = #[z]) (n c : Nat) (hnc : n ≤ c) (h : c * bytes ≤ 281474976710656) (w : World) :
    (Instr.makeSlice t (.int .i64 (n : Int)) (.int .i64 (c : Int))).run P w = .ok (.slice (some ⟨w.heap.size, 0, none⟩) n c) (w.alloc (.cells (reps c z).toArray e)) := by
  obtain ⟨i, hi, hz, hsz, hby⟩ := info_parts ht.info
  have hb := ht.bpos
  have hn : c ≤ c * bytes := Nat.le_mul_of_pos_right _ hb
  have hr := run_make (P := P) w t e i z ht.und hi hz .i64 .i64 n c (by omega) (by omega) (by rw [hby, Int.mul_comm]; omega) (by omega)
  simp only [Int.toNat_natCast, hsz, Nat.mul_one] at hr
  rw [hr]
  have hc : madeCells z.cells c = (reps c z).toArray := by
    unfold madeCells reps
    rw [hz1]
    apply Array.ext
    · simp
    · intro j hj1 hj2
      simp only [Array.getElem_map, Array.getElem_range, List.getElem_toArray, List.getElem_replicate]
      have : (#[z] : Array Value).size = 1 := rfl
      rw [this, Nat.mod_one]; rfl
  rw [hc]

set_option maxHeartbeats 1000000 in
theorem shaPad_any (n : Nat) (w : World) (hn : n ≤ 1099511627776) :
    Calls Tryz.prog 170 #[.int .i64 (n : Int)] w (RetBs w (padB n)) := by
  obtain ⟨z, hz⟩ : ∃ z, padZ n = z := ⟨_, rfl⟩
  have hz64 : z < 64 := by rw [← hz]; exact padZ_lt n
  have r1 : (119 - (n : Int) % 64) % 64 = (z : Int) := by rw [← hz]; unfold padZ; omega
  have hmk : ∀ w : World, (Instr.makeSlice 28 (.int .i64 (1 + (z : Int))) (.int .i64 (1 + (z : Int) + 8))).run Tryz.prog w = .ok (.slice (some ⟨w.heap.size, 0, none⟩) (1 + z) (1 + z + 8)) (w.alloc (.cells (reps (1 + z + 8) (.int .u8 0)).toArray 5)) := fun w => by
    have := run_mk2 (P := Tryz.prog) tBytes rfl (1 + z) (1 + z + 8) (by omega) (by omega) w
    simpa using this
  obtain ⟨wl, hwl⟩ : ∃ wl, wl = w.alloc (.cells ((reps (1 + z + 8) (.int .u8 0)).set 0 (.int .u8 128)).toArray 5) := ⟨_, rfl⟩
  have hb : Blk wl w.heap.size 5 ((reps (1 + z + 8) (.int .u8 0)).set 0 (.int .u8 128)) := by rw [hwl]; exact Blk.new w _ _
  have hbl : Below w.heap.size w wl := by rw [hwl]; exact (Below.refl _ _).alloc (Nat.le_refl _) _
  have HOW : Hid (Own w wl 5 1 (.slice (some ⟨w.heap.size, 0, none⟩) (1 + z) (1 + z + 8)) (1 + z) ((128 :: List.replicate z 0 : List UInt8).map u8c)) := by
    refine ⟨⟨by simp; omega, .inr ⟨w.heap.size, 1 + z + 8, ((reps (1 + z + 8) (.int .u8 0)).set 0 (.int .u8 128)).toArray, rfl, Nat.le_refl _, hb, by omega, by simp only [maxLen]; omega, by simp [reps], ?_⟩⟩, hbl⟩
    obtain ⟨q, hq⟩ : ∃ q, z + 8 = q := ⟨_, rfl⟩
    rw [show 1 + z + 8 = q + 1 by omega]
    simp only [reps, List.replicate_succ, List.set_cons_zero, Nat.mul_one]
    rw [show 1 + z = z + 1 by omega, List.take_succ_cons, List.take_replicate, Nat.min_eq_left (by omega)]
    simp [u8c]
  have HWL := Lib.hid hwl
  have HPB : Hid (padB n = (128 :: List.replicate z 0) ++ be (n * 8) 8) := by rw [← hz]; exact rfl
  have HLB := Lib.hid (be_length 8 (n * 8))
  have r2 : IntKind.u64.wrap ((n : Int)) = (n : Int) := wrap_u64 (by omega) (by omega)
  have HP : Hid (Calls Tryz.prog 73 #[.int .u64 ((n : Int) * 8), .int .i64 8] wl (RetBs wl (be (n * 8) 8))) := by
    have := put_yes (n * 8) 8 wl (by omega) (by omega) (by omega)
    rw [Int.natCast_mul] at this
    exact this
  clear hwl hb hbl hz
  go_enter Tryz.func170, Tryz.ntmps170
  go_wp2_with fail
  rw [← HWL.out]
  refine HP.out.mono ?_
  rintro e w1 ⟨v1, rfl, o1⟩
  obtain ⟨A1, k1, rfl, s1⟩ := o1.slice
  have HO := Lib.hid (HOW.out.mono o1.below)
  have HS1 := Lib.hid s1
  clear o1 s1
  have hl8 : (be (n * 8) 8).length ≤ 8 := by rw [HLB.out]; omega
  go_wp2_with (at_builtin; refine wpList_cat rfl (.tmp 23) (.tmp 27) 28 rfl tBytes rfl HO.out rfl HS1.out (one_bytes _) (by omega) ?_; intro v2 w2 o2)
  go_ret
  refine ⟨_, rfl, ?_⟩
  rw [HPB.out, List.map_append, List.length_append]
  have h := o2
  rw [show (128 :: List.replicate z 0 : List UInt8).length = 1 + z by simp; omega]
  exact h
end Go.Proofs.YtcfbbgbjlgonpaaGreatDoor
namespace Go.Proofs.YtcfbbgbjlgonpaaGreatDoor
open Go.RowKit Go.Shelf
attribute [local go_sem] Oper.semAt_some
set_option linter.unusedVariables false

def offs (m : Nat) : List Nat := (List.range m).map fun k => 64 * k
theorem offs_succ (m : Nat) : offs (m + 1) = offs m ++ [64 * m] := by simp [offs, List.range_succ]
/-- Where a part of 64 bytes may begin. -/
abbrev Cut (m : Nat) : Type := { x : Nat // x + 64 ≤ 64 * m }
theorem offs_len (m : Nat) : (offs m).length = m := by simp [offs]
/-- Below n₀ all blocks but one are as they were. -/
def KB (hb n₀ : Nat) (W W' : World) : Prop := W.heap.size ≤ W'.heap.size ∧ ∀ b, b < n₀ → b ≠ hb → W'.heap[b]? = W.heap[b]?
theorem KB.refl (hb n₀ : Nat) (W : World) : KB hb n₀ W W := ⟨Nat.le_refl _, fun _ _ _ => rfl⟩
theorem KB.trans {hb n₀ : Nat} {A B C : World} (h : KB hb n₀ A B) (k : KB hb n₀ B C) : KB hb n₀ A C := ⟨Nat.le_trans h.1 k.1, fun b h1 h2 => (k.2 b h1 h2).trans (h.2 b h1 h2)⟩
theorem KB.drew {hb n₀ : Nat} {A B : World} (h : KB hb n₀ A B) : KB hb n₀ A B.drew := h
theorem KB.cell {hb n₀ : Nat} {A B : World} (h : KB hb n₀ A B) {b i : Nat} (h1 : b < n₀) (h2 : b ≠ hb) : B.cell? ⟨b, i, none⟩ = A.cell? ⟨b, i, none⟩ := World.cell?_of_block (h.2 b h1 h2)
theorem run_from1 (b off L cap j : Nat) (h : j < L) (hc : L ≤ cap) (w : World) : (Instr.slice 28 (.slice (some ⟨b, off, none⟩) L cap) (some (.int .i64 (j : Int))) none none).run Tryz.prog w = .ok (.slice (some ⟨b, off + j, none⟩) (L - j) (cap - j)) w := by
  obtain ⟨A', hA, hr⟩ := run_from tBytes (some ⟨b, off, none⟩) L cap j (by omega) hc
  rw [hA h b off rfl, Nat.mul_one] at hr
  exact hr w
theorem run_three (b off L cap j : Nat) (h : j + 64 ≤ cap) (w : World) : (Instr.slice 28 (.slice (some ⟨b, off, none⟩) L cap) (some (.int .i64 (j : Int))) (some (.int .i64 ((j : Int) + 64))) (some (.int .i64 ((j : Int) + 64)))).run Tryz.prog w = .ok (.slice (some ⟨b, off + j, none⟩) 64 64) w := by
  obtain ⟨i, hi, hz, hsz, hby⟩ := info_parts tBytes.info
  have he : Tryz.prog.elem 28 = 5 := by simp [Program.elem, tBytes.und]
  have hu : Tryz.prog.underlying 28 = some (.slice (Tryz.prog.elem 28)) := by rw [he]; exact tBytes.und
  rw [run_slice_lhm w 28 (some ⟨b, off, none⟩) L cap hu .i64 .i64 .i64 (j : Int) ((j : Int) + 64) ((j : Int) + 64) (by omega) (by omega) (by omega) (by omega)]
  have e1 : ((j : Int) + 64).toNat = j + 64 := by omega
  have e3 : ¬ (j + 64 = j) := by omega
  simp [sizeOf, typeInfo, he, hi, Result.andThen, sliced, hsz, e1, add_flat]

set_option maxRecDepth 100000 in
set_option maxHeartbeats 1000000 in
theorem chunk1_in (F : Fence) (n : Nat) (hF : F.fn 188) (hro : F.round = none) (hn : 1 ≤ n) (l hB Bs Bn n₀ b off m cap : Nat) (hb : Bs < n₀) (hb2 : Bn < n₀) (hne : Bs ≠ hB) (hne2 : Bn ≠ hB) (hcap : 64 * m ≤ cap) (hmax : cap ≤ 9223372036854775807) (hm : m ≤ 1048576) (J Jx : List (Cut m) → World → Prop) (hJd : ∀ s A, J s A → J s A.drew)
    (hY : ∀ pre (x : Cut m) W, J pre W → pre.length < m → YieldAt F (n - 1) Tryz.prog l #[.slice (some ⟨b, off + x.1, none⟩) 64 64] W fun e W' =>
      (e = .returned (.bool true) ∧ J (pre ++ [x]) W' ∧ KB hB n₀ W W') ∨ (e = .returned (.bool false) ∧ Jx (pre ++ [x]) W'))
    (W : World) (hBs : W.cell? ⟨Bs, 0, none⟩ = some (.slice (some ⟨b, off, none⟩) (64 * m) cap)) (hBn : W.cell? ⟨Bn, 0, none⟩ = some (.int .i64 64)) (h0 : J [] W) :
    CallsIn F n Tryz.prog 188 #[.func (.yield l) #[] #[], .pointer (some ⟨Bs, 0, none⟩), .pointer (some ⟨Bn, 0, none⟩)] W fun e W' => (∃ v, e = .returned v) ∧
      ((∃ ys : List (Cut m), ys.map Subtype.val = offs m ∧ J ys W') ∨ (∃ pre, True ∧ Jx pre W')) := by
  refine callsIn_of_wp Tryz.func188 rfl hF ?_ hro
  simp only [Tryz.ntmps188, List.size_toArray, List.length_cons, List.length_nil, Nat.reduceAdd, Nat.reduceSub, Array.replicate_succ, Array.replicate_zero, List.push_toArray, List.append_toArray, List.nil_append, List.cons_append]
  obtain ⟨L, hL⟩ : ∃ L, L = 64 * m := ⟨_, rfl⟩
  rw [← hL] at hBs hcap
  have HL := Lib.hid hL; clear hL
  gi_wp2
  gi_loopw [4] (fun i wr => ∃ k j : Nat, k ≤ m ∧ 64 * k = j ∧ i = .int .i64 j ∧ (∃ pre : List (Cut m), pre.map Subtype.val = offs k ∧ J pre wr) ∧ KB hB n₀ W wr)
    (fun i _ => 64 * m + 64 - (intOf i).toNat)
  case atStart => exact ⟨0, 0, Nat.zero_le _, rfl, rfl, ⟨[], rfl, h0⟩, KB.refl _ _ _⟩
  case round =>
    obtain ⟨k, j, hk, hj, rfl, ⟨pre, hpre, hJs⟩, hnx⟩ := hrel
    have HPR := Lib.hid hpre; clear hpre
    have HLo := HL.out
    have c1 := (hnx.cell (i := 0) hb hne).trans hBs
    have c2 := (hnx.cell (i := 0) hb2 hne2).trans hBn
    by_cases hlt : k < m
    · have hcut : j + 64 ≤ 64 * m := by omega
      obtain ⟨fn, tmps, assign, body, hy, hR⟩ := hY pre ⟨j, hcut⟩ wr.drew (hJd _ _ hJs) (by have := congrArg List.length HPR.out; rw [List.length_map, offs_len] at this; omega)
      dsimp only at hy
      have hjl : j < L := by omega
      have hjs : j ≤ 67108864 := by omega
      have hs1 := run_from1 b off L cap j hjl hcap
      have hs2 := run_three b off L cap j (by omega)
      have hmn : min (64 : Int) ((L - j : Nat) : Int) = 64 := by omega
      have HJ := Lib.hid hj; clear hj HLo
      have p0 : (0 : Int) ≤ (j : Int) := by omega
      gi_wp2
      gi_region
      all_goals
        gi_wp2
        refine hR.mono ?_
        rintro e W3 (⟨rfl, hJ3, hk3⟩ | ⟨rfl, hJx3⟩)
        · have c3 : W3.cell? ⟨Bn, 0, none⟩ = some (.int .i64 64) := (hk3.cell (i := 0) hb2 hne2).trans c2
          clear hs1 hs2 hmn
          gi_wp2
          go_roundw
          case rel => exact ⟨k + 1, j + 64, by omega, by have := HJ.out; omega, by go_num, ⟨_, by rw [List.map_append, HPR.out, offs_succ, HJ.out]; rfl, hJ3⟩, hnx.drew.trans hk3⟩
          case measure => have := HL.out; simp [intOf]; omega
        · gi_wp2
          refine bodyPost_ret (results_none rfl _ _ _) rfl ?_
          exact ⟨⟨_, rfl⟩, .inr ⟨_, trivial, hJx3⟩⟩
    · obtain rfl : k = m := by omega
      obtain rfl : L = j := by omega
      have t1 : decide ((L : Int) < (L : Int)) = false := by simp
      clear HLo hj
      gi_wp2
      go_end0
      exact ⟨⟨_, rfl⟩, .inl ⟨_, HPR.out, hJs⟩⟩

theorem chunk_in (F : Fence) (n : Nat) (hF : F.fn 169) (hro : F.round = none) (a : Option Addr) (len cap : Nat) (w : World) :
    CallsIn F n Tryz.prog 169 #[.slice a len cap, .int .i64 64] w fun e w' => e = .returned (.func (.func 188) #[] #[.pointer (some ⟨w.heap.size, 0, none⟩), .pointer (some ⟨w.heap.size + 1, 0, none⟩)]) ∧ w' = (w.alloc (.cells #[.slice a len cap] 28)).alloc (.cells #[.int .i64 64] 3) := by
  refine callsIn_of_wp Tryz.func169 rfl hF ?_ hro
  simp only [Tryz.ntmps169, List.size_toArray, List.length_cons, List.length_nil, Nat.reduceAdd, Nat.reduceSub, Array.replicate_succ, Array.replicate_zero, List.push_toArray, List.append_toArray, List.nil_append, List.cons_append]
  gi_wp2
  go_ret
  exact ⟨rfl, rfl⟩
theorem grown_drew (w : World) : w.grownBy w.drew none := ⟨rfl, rfl, rfl, Nat.le_refl _, fun _ _ _ => rfl⟩
theorem chunk_stops (F : Fence) (n : Nat) (hF : F.fn 188) (hro : F.round = none) (hn : 1 ≤ n) (hB Bs Bn n₀ b off m cap : Nat) (hb : Bs < n₀) (hb2 : Bn < n₀) (hne : Bs ≠ hB) (hne2 : Bn ≠ hB) (hcap : 64 * m ≤ cap) (hmax : cap ≤ 9223372036854775807) (hm : m ≤ 1048576) (w : World) (hn₀ : n₀ ≤ w.heap.size)
    (hBs : w.cell? ⟨Bs, 0, none⟩ = some (.slice (some ⟨b, off, none⟩) (64 * m) cap)) (hBn : w.cell? ⟨Bn, 0, none⟩ = some (.int .i64 64)) :
    SeqStopsK F n Tryz.prog 188 #[.pointer (some ⟨Bs, 0, none⟩), .pointer (some ⟨Bn, 0, none⟩)] (fun x : Cut m => #[Value.slice (some ⟨b, off + x.1, none⟩) 64 64]) (KB hB n₀) (fun ys => ys.map Subtype.val = offs m) (fun _ => True) m w := fun l J Jx W hW hJ _ hY h0 =>
  chunk1_in F n hF hro hn l hB Bs Bn n₀ b off m cap hb hb2 hne hne2 hcap hmax hm J Jx (fun s A h => hJ s A _ none h (grown_drew A) (fun r e => by cases e)) hY W
    ((hW.cell (p := ⟨Bs, 0, none⟩) (by show Bs < _; omega)).trans hBs) ((hW.cell (p := ⟨Bn, 0, none⟩) (by show Bn < _; omega)).trans hBn) h0
end Go.Proofs.YtcfbbgbjlgonpaaGreatDoor
namespace Go.Proofs.YtcfbbgbjlgonpaaGreatDoor
open Go.RowKit Go.Shelf
attribute [local go_sem] Oper.semAt_some
set_option linter.unusedVariables false

def H0 : H8 := ⟨1779033703, 3144134277, 1013904242, 2773480762, 1359893119, 2600822924, 528734635, 1541459225⟩
def hFold (all : List UInt8) (l : List Nat) : H8 := l.foldl (fun h x => blockH h ((all.drop x).take 64)) H0
theorem hFold_snoc (all : List UInt8) (l : List Nat) (x : Nat) : hFold all (l ++ [x]) = blockH (hFold all l) ((all.drop x).take 64) := by simp [hFold]
def outB (ws : List UInt32) : List UInt8 := ws.flatMap fun x => be x.toNat 4
def allB (b : List UInt8) : List UInt8 := b ++ padB b.length
/-- The sum of any bytes. -/
def sumL (b : List UInt8) : List UInt8 := outB (hFold (allB b) (offs ((allB b).length / 64))).ws
theorem outB_len (ws : List UInt32) : (outB ws).length = ws.length * 4 := by
  unfold outB
  induction ws with
  | nil => rfl
  | cons x ws ih => simp [be_length, ih]; omega
theorem sumL_len (b : List UInt8) : (sumL b).length = 32 := by unfold sumL; rw [outB_len]; rfl
theorem H0_cells : H0.cells = [.int .u32 1779033703, .int .u32 3144134277, .int .u32 1013904242, .int .u32 2773480762, .int .u32 1359893119, .int .u32 2600822924, .int .u32 528734635, .int .u32 1541459225] := by kernel_rfl
theorem first_any (w : World) : Calls Tryz.prog 168 #[] w fun e w' => e = .returned (.agg #[.int .u32 1779033703, .int .u32 3144134277, .int .u32 1013904242, .int .u32 2773480762, .int .u32 1359893119, .int .u32 2600822924, .int .u32 528734635, .int .u32 1541459225]) ∧ Below w.heap.size w w' := by
  go_enter Tryz.func168, Tryz.ntmps168
  go_wp2
  exact bodyPost_ret (v := .agg #[.int .u32 1779033703, .int .u32 3144134277, .int .u32 1013904242, .int .u32 2773480762, .int .u32 1359893119, .int .u32 2600822924, .int .u32 528734635, .int .u32 1541459225]) (by simp [results, Tryz.results168, go_sem]) rfl ⟨rfl, (Below.refl _ _).alloc (Nat.le_refl _) _⟩
theorem keeps_below {W W' : World} (h : Below W.heap.size W W') : KeepsOthers W W' := ⟨h.size, fun k o hk _ => (h.block k (Array.getElem?_eq_some_iff.1 hk).1).trans hk⟩
theorem allB_len (b : List UInt8) : (allB b).length = b.length + (padZ b.length + 9) := by unfold allB; rw [List.length_append, padB_len]
theorem allB_whole (b : List UInt8) : 64 * ((allB b).length / 64) = (allB b).length := by
  have := pad_whole b.length
  rw [allB_len]
  omega

def set8 (W : World) (g : Nat) (v0 v1 v2 v3 v4 v5 v6 v7 : Value) : World := (((((((W.setCell ⟨g, 0, none⟩ v0).setCell ⟨g, 1, none⟩ v1).setCell ⟨g, 2, none⟩ v2).setCell ⟨g, 3, none⟩ v3).setCell ⟨g, 4, none⟩ v4).setCell ⟨g, 5, none⟩ v5).setCell ⟨g, 6, none⟩ v6).setCell ⟨g, 7, none⟩ v7
theorem set8_blk {W : World} {g : Nat} {t : TypeId} {a0 a1 a2 a3 a4 a5 a6 a7 : Value} (h : Blk W g t [a0, a1, a2, a3, a4, a5, a6, a7]) (v0 v1 v2 v3 v4 v5 v6 v7 : Value) : Blk (set8 W g v0 v1 v2 v3 v4 v5 v6 v7) g t [v0, v1, v2, v3, v4, v5, v6, v7] :=
  (((((((h.set 0 v0).set 1 v1).set 2 v2).set 3 v3).set 4 v4).set 5 v5).set 6 v6).set 7 v7
theorem set8_keeps (W : World) (g : Nat) (v0 v1 v2 v3 v4 v5 v6 v7 : Value) : KeepsOthers W (set8 W g v0 v1 v2 v3 v4 v5 v6 v7) :=
  (((((((KeepsOthers.setCell W _ _).trans (KeepsOthers.setCell _ _ _)).trans (KeepsOthers.setCell _ _ _)).trans (KeepsOthers.setCell _ _ _)).trans (KeepsOthers.setCell _ _ _)).trans (KeepsOthers.setCell _ _ _)).trans (KeepsOthers.setCell _ _ _)).trans (KeepsOthers.setCell _ _ _)
theorem set8_other (W : World) (g : Nat) (v0 v1 v2 v3 v4 v5 v6 v7 : Value) (b : Nat) (hb : b ≠ g) : (set8 W g v0 v1 v2 v3 v4 v5 v6 v7).heap[b]? = W.heap[b]? := by
  unfold set8
  rw [Below.heap_setCell _ ⟨g, 7, none⟩ _ b hb, Below.heap_setCell _ ⟨g, 6, none⟩ _ b hb, Below.heap_setCell _ ⟨g, 5, none⟩ _ b hb, Below.heap_setCell _ ⟨g, 4, none⟩ _ b hb, Below.heap_setCell _ ⟨g, 3, none⟩ _ b hb, Below.heap_setCell _ ⟨g, 2, none⟩ _ b hb, Below.heap_setCell _ ⟨g, 1, none⟩ _ b hb, Below.heap_setCell _ ⟨g, 0, none⟩ _ b hb]
theorem set8_below {B : Nat} {w W : World} {g : Nat} (h : Below B w W) (hg : B ≤ g) (v0 v1 v2 v3 v4 v5 v6 v7 : Value) : Below B w (set8 W g v0 v1 v2 v3 v4 v5 v6 v7) :=
  (((((((h.setCell (p := ⟨g, 0, none⟩) hg v0).setCell (p := ⟨g, 1, none⟩) hg v1).setCell (p := ⟨g, 2, none⟩) hg v2).setCell (p := ⟨g, 3, none⟩) hg v3).setCell (p := ⟨g, 4, none⟩) hg v4).setCell (p := ⟨g, 5, none⟩) hg v5).setCell (p := ⟨g, 6, none⟩) hg v6).setCell (p := ⟨g, 7, none⟩) hg v7
theorem kb_put (hb n₀ : Nat) (W : World) (l : Nat) (o' : Obj) (h : n₀ ≤ l) : KB hb n₀ W (W.putObj l o') := by
  have hg := grownBy_putObj' W l o'
  refine ⟨hg.size, fun b h1 _ => ?_⟩
  by_cases hlt : b < W.heap.size
  · exact hg.block b hlt (by intro e; injection e with e; omega)
  · have e1 : (W.putObj l o').heap.size = W.heap.size := by simp [World.putObj]
    rw [Array.getElem?_eq_none (by omega), Array.getElem?_eq_none (by omega)]

theorem wpListIn_catG {F : Fence} {nf : Nat} {P : Program} {ops : Array Oper} {rest : List Oper} {o : Oper} {a : Act} {Q : Exit → Act → World → Prop} (hgd : o.guard = none) (s x : Operand) (t : TypeId)
    (ho : o.op = .call { callee := .builtin .append, args := #[s, x], argTypes := #[t, t] })
    {e : TypeId} {z : Value} {size bytes : Nat} (ht : ElemT P t e z size bytes) {w0 w : World} {v : Value} {n : Nat} {xs : List Value} (hs : a.eval s = v) (hown : Own w0 w e size v n xs)
    {A : Option Addr} {m c : Nat} {news : List Value} (hx : a.eval x = .slice A m c) (hsl : Sl w A m c size news) (h1 : ∀ u ∈ news, u.oneCell' = true)
    (hroom : (n + m) * bytes ≤ 140737488355328)
    (h : ∀ v' w', Own w0 w' e size v' (n + m) (xs ++ news) → Kept w w' v v' → wpListIn F nf P ops Q rest (a.put o.dst v') w') : wpListIn F nf P ops Q (o :: rest) a w := by
  obtain ⟨i, hi, hz, hsz, hby⟩ := info_parts ht.info
  have hb1 : n + m ≤ (n + m) * bytes := Nat.le_mul_of_pos_right _ ht.bpos
  have : ∃ v' w', (Builtin.append_ #[t, t] o.type #[v, .slice A m c]).run P w = .ok v' w' ∧ Own w0 w' e size v' (n + m) (xs ++ news) ∧ Kept w w' v v' := by
    rcases Nat.eq_zero_or_pos m with hm | hm
    · subst hm
      have hn : news = [] := List.eq_nil_of_length_eq_zero (by simpa using hsl.1)
      subst hn
      exact ⟨v, w, run_append_nothing w ht.und hi hown.1 A c, by simpa using hown, Kept.refl w v⟩
    · obtain ⟨b, off, rfl, hc⟩ := hsl.addr hm
      obtain ⟨v', w', hrun, h2, h3, _, h5⟩ := run_append_own_at (P := P) w w0.heap.size t o.type e i z size bytes ht.und hi hz hsz hby ht.cells ht.pos v n xs hown.1 ⟨b, off, none⟩ m c news hsl.1
        (fun j u hu => by
          have he : (Addr.mk b off none).add j = ⟨b, off + j, none⟩ := by unfold Addr.add; split <;> simp_all
          rw [he]; exact hc j u hu) h1 (by simp only [maxLen]; omega) hroom hown.2.size
      exact ⟨v', w', hrun, ⟨h2, hown.2.grown h3 hown.2.size (fun k hk => (hown.1.lt k hk).1)⟩, fun b hb hne => h3.block b hb (fun e => hne e.symm), h3.size, h5⟩
  obtain ⟨v', w', hrun, h2, h3⟩ := this
  refine wpListIn_plain hgd fun K hK' => ?_
  unfold Oper.wpIn
  refine ⟨?_, ?_⟩
  · simp [Oper.about, ho, resolve, Target.leads, Sem.run_pure]
  · rw [Oper.semAt_plain F _ _ (by rw [ho]; intro c hc'; cases hc')]
    simp [execOp, ho, resolve, invoke, builtin, hs, hx, hrun, Result.andThen]
    exact hK' _ _ (h v' w' h2 h3)
theorem Own.notD {w0 w : World} {e : TypeId} {size n D : Nat} {v : Value} {xs : List Value} {o : List Deferred} (h : Own w0 w e size v n xs) (hD : w.heap[D]? = some (.deferred (some o))) : v.ownBlock ≠ some D := by
  intro hv
  rcases h.1.2 with ⟨rfl, _⟩ | ⟨g, cap, cur, rfl, hg, hh, r⟩
  · cases hv
  · have : g = D := by simpa [Value.ownBlock] using hv
    subst this
    rw [hh] at hD
    cases hD
theorem run_index8 (r : H8) (t : Nat) (ht : t < 8) (w : World) : (Instr.index 174 (.agg r.cells.toArray) (.int .i64 (t : Int))).run Tryz.prog w = .ok (.int .u32 (un (r.ws.getD t 0))) w := by
  have hs : (sizeOf 119).run Tryz.prog w = .ok 1 w := by kernel_rfl
  have hag : (isAgg 119).run Tryz.prog w = .ok false w := by kernel_rfl
  have ha : r.cells.toArray[t]? = some (.int .u32 (un (r.ws.getD t 0))) := by rw [List.getElem?_toArray]; exact ws_cell r t ht
  simp only [Instr.index, asIntOf, Sem.run_bind, Sem.run_pure, Result.andThen_ok, run_underlying Tryz.underlying174]
  rw [if_pos ⟨by omega, by exact_mod_cast ht⟩]
  simp only [Sem.run_bind, hs, Result.andThen_ok, Int.toNat_natCast, Nat.mul_one]
  simp only [part, Sem.run_bind, hag, Result.andThen_ok]
  rw [ha]
  rfl
theorem outB_snoc (ws : List UInt32) (k : Nat) (hk : k < ws.length) : outB (ws.take (k + 1)) = outB (ws.take k) ++ be (ws.getD k 0).toNat 4 := by
  unfold outB
  rw [List.take_succ_eq_append_getElem hk, List.flatMap_append, List.getD_eq_getElem?_getD, List.getElem?_eq_getElem hk]
  simp

set_option maxRecDepth 100000 in
set_option maxHeartbeats 2000000 in
theorem sum_any (A : Option Addr) (n c : Nat) (l : List UInt8) (w : World) (h : Bs w A n c l) (hn : n ≤ 50000) (hK : ShaK w) :
    Calls Tryz.prog 146 #[.slice A n c] w (RetBs w (sumL l)) := by
  refine (callsIn_wide (n := 6)).1 ?_
  have hcap := h.cap
  have hmax := h.max
  have HLN := Lib.hid h.len
  have HH := Lib.hid h; have HKT := Lib.hid hK; clear h hK
  refine callsIn_of_wp_marks Tryz.func146 rfl trivial ?_ rfl
  simp only [Tryz.ntmps146, List.size_toArray, List.length_cons, List.length_nil, Nat.reduceAdd, Nat.reduceSub, Array.replicate_succ, Array.replicate_zero, List.push_toArray, List.append_toArray, List.nil_append, List.cons_append]
  gi_wp2_with (first
    | (refine ⟨trivial, ?_⟩; gi_at_call 168; refine (callsIn_wide.2 (first_any _)).mono ?_; rintro e w1 ⟨rfl, b1⟩)
    | (refine ⟨trivial, ?_⟩; gi_at_call 170; refine (callsIn_wide.2 (shaPad_any n _ (by omega))).mono ?_; rintro e w3 ⟨v3, rfl, o3⟩; obtain ⟨A3, c3, rfl, s3⟩ := o3.slice)
    | fail)
  have hz1 : w1.heap.size < w3.heap.size := by have := o3.below.size; simp at this; omega
  have hb3 : Below w1.heap.size w1 w3 := ((Below.refl _ w1).alloc (Nat.le_refl _) _).trans (o3.below.mono (by simp))
  have hbw3 := below_both b1 hb3
  have D0 : Hid (Blk w3 w1.heap.size 174 (hFold (allB l) []).cells) := by
    show Blk w3 w1.heap.size 174 H0.cells
    rw [H0_cells]
    exact (Blk.new w1 _ _).mono o3.below
  have HBS : Hid (Bss (w3.alloc (.cells #[.slice A n c, .slice A3 (padB n).length c3] 28)) (some ⟨w3.heap.size, 0, none⟩) 2 2 [⟨A, n, c, l⟩, ⟨A3, (padB n).length, c3, padB n⟩]) := by
    have hal := (Below.refl w3.heap.size w3).alloc (Nat.le_refl _) (.cells #[.slice A n c, .slice A3 (padB n).length c3] 28)
    refine ⟨⟨rfl, Nat.le_refl _, by simp [maxLen], fun _ => ⟨_, _, rfl, fun j u hu => ?_⟩⟩, fun r hr => ?_⟩
    · rw [Nat.zero_add, (Blk.new w3 _ _).cell]
      exact hu
    · simp only [List.mem_cons, List.mem_nil_iff, or_false] at hr
      rcases hr with rfl | rfl
      · exact (HH.out.mono hbw3).mono hal
      · exact s3.mono hal
  have hrow : rowsOf [⟨A, n, c, l⟩, ⟨A3, (padB n).length, c3, padB n⟩] = allB l := by
    unfold rowsOf allB
    rw [HLN.out]
    simp
  have hal := allB_len l
  have hpz := padZ_lt l.length
  have hln := HLN.out
  obtain ⟨m, hm⟩ : ∃ m, (allB l).length = 64 * m := ⟨_, (allB_whole l).symm⟩
  have hm1 : 1 ≤ m := by omega
  have hm2 : m ≤ 1000 := by omega
  have HSU : Hid (sumL l = outB (hFold (allB l) (offs m)).ws) := by unfold sumL; rw [hm, Nat.mul_div_cancel_left _ (by decide)]; exact rfl
  refine ⟨trivial, (callsIn_wide.2 (concat_any _ 2 2 _ _ HBS.out (by rw [hrow]; omega))).mono ?_⟩
  rintro e w5 ⟨v5, rfl, o5⟩
  rw [hrow, hm] at o5
  rcases o5.1.2 with ⟨_, h0⟩ | ⟨g5, c5, cur5, rfl, hg5, _⟩
  · omega
  have hb5 : Below w3.heap.size w3 w5 := ((Below.refl _ w3).alloc (Nat.le_refl _) _).trans (o5.below.mono (by simp))
  obtain ⟨A5', c5', e5, s5⟩ := o5.slice
  injection e5 with e51 e52 e53
  subst e51 e53
  have hg5l : g5 < w5.heap.size := (o5.1.lt g5 rfl).2
  have hg5g : w3.heap.size ≤ g5 := by have := (o5.1.lt g5 rfl).1; simp at this; omega
  have hcap5 := Sl.cap s5
  have hmax5 := Sl.max s5
  have HS5 : Hid (Bs w5 (some ⟨g5, 0, none⟩) (64 * m) c5 (allB l)) := s5
  have D5 : Hid (Blk w5 w1.heap.size 174 (hFold (allB l) []).cells) := D0.out.mono hb5
  have HBW5 := Lib.hid (below_both hbw3 hb5)
  have HK5 : Hid (ShaK w5) := HKT.out.mono HBW5.out
  have hz5 := hb5.size
  have hzw := HBW5.out.size
  have hz01 := b1.size
  clear s5 o5 hb5 hbw3 hb3 o3 s3 HBS D0 hrow hm hal hpz hln b1
  gi_wp2_with (first
    | (refine ⟨trivial, ?_⟩; gi_at_call 169; refine (chunk_in Fence.wide _ trivial rfl _ _ _ _).mono ?_; rintro e w6 ⟨rfl, rfl⟩)
    | fail)
  obtain ⟨W0, hW0⟩ : ∃ W0, W0 = (w5.alloc (.cells #[.slice (some ⟨g5, 0, none⟩) (64 * m) c5] 28)).alloc (.cells #[.int .i64 64] 3) := ⟨_, rfl⟩
  have hzW : W0.heap.size = w5.heap.size + 1 + 1 := by rw [hW0]; simp
  have hb0 : Below w5.heap.size w5 W0 := by rw [hW0]; exact ((Below.refl _ _).alloc (Nat.le_refl _) _).alloc (by simp) _
  have cBs : W0.cell? ⟨w5.heap.size, 0, none⟩ = some (.slice (some ⟨g5, 0, none⟩) (64 * m) c5) := by
    rw [hW0, ((Blk.new w5 28 #[.slice (some ⟨g5, 0, none⟩) (64 * m) c5]).alloc _).cell]; rfl
  have cBn : W0.cell? ⟨w5.heap.size + 1, 0, none⟩ = some (.int .i64 64) := by
    rw [hW0]
    have := (Blk.new (w5.alloc (.cells #[.slice (some ⟨g5, 0, none⟩) (64 * m) c5] 28)) 3 #[.int .i64 64]).cell 0
    rw [show (w5.alloc (.cells #[.slice (some ⟨g5, 0, none⟩) (64 * m) c5] 28)).heap.size = w5.heap.size + 1 by simp] at this
    exact this
  rw [← hW0]
  have E0 : Hid (Blk W0 w1.heap.size 174 (hFold (allB l) []).cells) := D5.out.mono hb0
  have HBW0 := Lib.hid (below_both HBW5.out hb0)
  have HKW : Hid (ShaK W0) := HK5.out.mono hb0
  have HS0 : Hid (Bs W0 (some ⟨g5, 0, none⟩) (64 * m) c5 (allB l)) := HS5.out.mono hb0
  have HSQ := chunk_stops Fence.wide 5 trivial rfl (by omega) w1.heap.size w5.heap.size (w5.heap.size + 1) W0.heap.size g5 0 m c5 (by omega) (by omega) (by omega) (by omega) hcap5 hmax5 (by omega) W0 (Nat.le_refl _) cBs cBn
  have HZW := Lib.hid hzW
  have hzw2 : w.heap.size ≤ W0.heap.size := by omega
  have hz12 : w1.heap.size < W0.heap.size := by omega
  have hg52 : g5 < W0.heap.size := by omega
  have hg5n : g5 ≠ w1.heap.size := by omega
  clear hW0 hzW cBs cBn hb0 HS5 HK5 D5 HBW5
  refine wpIn_rangeFunc_ownF rfl (by omega) (gf := 188) (lb := #[.pointer (some ⟨w5.heap.size, 0, none⟩), .pointer (some ⟨w5.heap.size + 1, 0, none⟩)]) rfl trivial (enters_of Tryz.func188 (by kernel_rfl) rfl)
    HSQ (fun h k => KB.trans h k) (fun W lb o o' hl _ _ _ => kb_put _ _ W lb o' hl) (Below.refl _ _) (fun _ => rfl)
    (fun pre W => Blk W w1.heap.size 174 (hFold (allB l) (pre.map Subtype.val)).cells ∧ Below w.heap.size w W ∧ KB w1.heap.size W0.heap.size W0 W)
    (fun _ _ _ => False)
    (fun s A' B' row hs hg hr => ⟨(hg.block w1.heap.size hs.1.lt (fun e => by have := (hr w1.heap.size e.symm).1; omega)).trans hs.1, hs.2.1.grown hg hs.2.1.size (fun k e => by have := (hr k e).1; omega), ⟨Nat.le_trans hs.2.2.1 hg.size, fun b h1 h2 => (hg.block b (Nat.lt_of_lt_of_le h1 hs.2.2.1) (fun e => by have := (hr b e.symm).1; omega)).trans (hs.2.2.2 b h1 h2)⟩⟩)
    (fun _ _ _ _ _ hs _ _ => hs)
    ⟨E0.out, HBW0.out, KB.refl _ _ _⟩
    (fun x => { tmps := #[.slice A n c, undef, .slice none 0 0, .pointer (some ⟨w1.heap.size, 0, none⟩), .slice (some ⟨g5, x.1, none⟩) 64 64, undef, undef, .agg #[.int .u32 1779033703, .int .u32 3144134277, .int .u32 1013904242, .int .u32 2773480762, .int .u32 1359893119, .int .u32 2600822924, .int .u32 528734635, .int .u32 1541459225], .slice A n c, .slice A n c, .int .i64 n, .slice A3 (padB n).length c3, .slice (some ⟨w3.heap.size, 0, none⟩) 2 2, .slice (some ⟨g5, 0, none⟩) (64 * m) c5, .func (.func 188) #[] #[.pointer (some ⟨w5.heap.size, 0, none⟩), .pointer (some ⟨w5.heap.size + 1, 0, none⟩)], .slice (some ⟨g5, x.1, none⟩) 64 64, undef, undef, undef, undef, undef, undef, undef, undef, undef, undef, undef, undef, undef, undef], defers := [] }) ?assign ?body ?done ?stop
  case assign =>
    intro l' x W K hK
    gi_wp2
    exact hK
  case body =>
    rintro l' pre x W ⟨hblk, hbel, hkb⟩ _
    have hBx : Bs W (some ⟨g5, x.1, none⟩) 64 64 (((allB l).drop x.1).take 64) := by
      have h1 := Sl.part HS0.out (lo := x.1) (m := 64) x.2
      refine ⟨h1.1, Nat.le_refl _, by simp [maxLen], fun _ => ⟨g5, x.1, rfl, fun j u hu => ?_⟩⟩
      obtain ⟨b', o', e', hc'⟩ := h1.2.2.2 (by omega)
      injection e' with e'
      injection e' with e1 e2
      subst e1 e2
      rw [hkb.cell hg52 hg5n]
      have := hc' j u hu
      rwa [Nat.zero_add] at this
    have hsn := hFold_snoc (allB l) (pre.map Subtype.val) x.1
    generalize hFold (allB l) (pre.map Subtype.val) = r at *
    have HB := Lib.hid (block_core r.a r.b r.c r.d r.e r.f r.g r.h (some ⟨g5, x.1, none⟩) 64 _ W hBx (HKT.out.mono hbel))
    obtain ⟨r0, r1, r2, r3, r4, r5, r6, r7⟩ := r
    generalize hbh : blockH ⟨r0, r1, r2, r3, r4, r5, r6, r7⟩ (((allB l).drop x.1).take 64) = t at *
    obtain ⟨t0, t1, t2, t3, t4, t5, t6, t7⟩ := t
    have HSN := Lib.hid hsn; have HBK := Lib.hid hblk; have HBE := Lib.hid hbel; have HKB := Lib.hid hkb
    have c0 : W.cell? ⟨w1.heap.size, 0, none⟩ = some (.int .u32 (un r0)) := by rw [hblk.cell]; rfl
    have c1 : W.cell? ⟨w1.heap.size, 1, none⟩ = some (.int .u32 (un r1)) := by rw [hblk.cell]; rfl
    have c2 : W.cell? ⟨w1.heap.size, 2, none⟩ = some (.int .u32 (un r2)) := by rw [hblk.cell]; rfl
    have c3 : W.cell? ⟨w1.heap.size, 3, none⟩ = some (.int .u32 (un r3)) := by rw [hblk.cell]; rfl
    have c4 : W.cell? ⟨w1.heap.size, 4, none⟩ = some (.int .u32 (un r4)) := by rw [hblk.cell]; rfl
    have c5 : W.cell? ⟨w1.heap.size, 5, none⟩ = some (.int .u32 (un r5)) := by rw [hblk.cell]; rfl
    have c6 : W.cell? ⟨w1.heap.size, 6, none⟩ = some (.int .u32 (un r6)) := by rw [hblk.cell]; rfl
    have c7 : W.cell? ⟨w1.heap.size, 7, none⟩ = some (.int .u32 (un r7)) := by rw [hblk.cell]; rfl
    clear hbh hsn hblk hbel hkb hBx
    have HB2 := Lib.hid (show Calls Tryz.prog 171 #[.agg #[.int .u32 (un r0), .int .u32 (un r1), .int .u32 (un r2), .int .u32 (un r3), .int .u32 (un r4), .int .u32 (un r5), .int .u32 (un r6), .int .u32 (un r7)], .slice (some ⟨g5, x.1, none⟩) 64 64] W fun e w' => e = .returned (.agg #[.int .u32 (un t0), .int .u32 (un t1), .int .u32 (un t2), .int .u32 (un t3), .int .u32 (un t4), .int .u32 (un t5), .int .u32 (un t6), .int .u32 (un t7)]) ∧ Below W.heap.size W w' from HB.out)
    clear HB
    gi_wp2_with (refine ⟨trivial, ?_⟩; gi_at_call 171; refine (CallsIn.inRound l' (callsIn_wide.2 HB2.out)).mono ?_; rintro e W1 ⟨rfl, b1⟩; have hbk1 := HBK.out.mono b1; have d0 : W1.cell? ⟨w1.heap.size, 0, none⟩ = some (.int .u32 (un r0)) := (hbk1.cell 0).trans rfl; have d1 : W1.cell? ⟨w1.heap.size, 1, none⟩ = some (.int .u32 (un r1)) := (hbk1.cell 1).trans rfl; have d2 : W1.cell? ⟨w1.heap.size, 2, none⟩ = some (.int .u32 (un r2)) := (hbk1.cell 2).trans rfl; have d3 : W1.cell? ⟨w1.heap.size, 3, none⟩ = some (.int .u32 (un r3)) := (hbk1.cell 3).trans rfl; have d4 : W1.cell? ⟨w1.heap.size, 4, none⟩ = some (.int .u32 (un r4)) := (hbk1.cell 4).trans rfl; have d5 : W1.cell? ⟨w1.heap.size, 5, none⟩ = some (.int .u32 (un r5)) := (hbk1.cell 5).trans rfl; have d6 : W1.cell? ⟨w1.heap.size, 6, none⟩ = some (.int .u32 (un r6)) := (hbk1.cell 6).trans rfl; have d7 : W1.cell? ⟨w1.heap.size, 7, none⟩ = some (.int .u32 (un r7)) := (hbk1.cell 7).trans rfl; have f0 := hbk1.free 0; have f1 := hbk1.free 1; have f2 := hbk1.free 2; have f3 := hbk1.free 3; have f4 := hbk1.free 4; have f5 := hbk1.free 5; have f6 := hbk1.free 6; have f7 := hbk1.free 7; have HK1 := Lib.hid hbk1; clear hbk1)
    have hwz : W0.heap.size ≤ W.heap.size := HKB.out.1
    refine ⟨(keeps_below b1).trans (set8_keeps W1 w1.heap.size _ _ _ _ _ _ _ _), ⟨Nat.le_trans b1.size (set8_keeps W1 w1.heap.size _ _ _ _ _ _ _ _).size, fun b h1 h2 => (set8_other W1 w1.heap.size _ _ _ _ _ _ _ _ b h2).trans (b1.block b (by omega))⟩, ?_, set8_below (below_both HBE.out b1) hz01 _ _ _ _ _ _ _ _, ?_⟩
    · rw [List.map_append, List.map_cons, List.map_nil, HSN.out]
      exact set8_blk HK1.out _ _ _ _ _ _ _ _
    · exact HKB.out.trans ⟨Nat.le_trans b1.size (set8_keeps W1 w1.heap.size _ _ _ _ _ _ _ _).size, fun b h1 h2 => (set8_other W1 w1.heap.size _ _ _ _ _ _ _ _ b h2).trans (b1.block b (by omega))⟩
  case done =>
    rintro D ys W hD hS ⟨hblk, hbel, hkb⟩ hKd
    have hS' : ys.map Subtype.val = offs m := hS
    rw [hS'] at hblk
    generalize hFold (allB l) (offs m) = r at *
    have hix := run_index8 r
    have HIX : Hid (∀ t : Nat, t < 8 → ∀ w', (Instr.index 174 (.agg #[.int .u32 (un r.a), .int .u32 (un r.b), .int .u32 (un r.c), .int .u32 (un r.d), .int .u32 (un r.e), .int .u32 (un r.f), .int .u32 (un r.g), .int .u32 (un r.h)]) (.int .i64 (t : Int))).run Tryz.prog w' = .ok (.int .u32 (un (r.ws.getD t 0))) w') := fun t ht w' => hix t ht w'
    have HWL : Hid (r.ws.length = 8) := rfl
    have HOL := Lib.hid (fun k => outB_len (r.ws.take k))
    have HOS := Lib.hid (fun k hk => outB_snoc r.ws k hk)
    have c0 : W.cell? ⟨w1.heap.size, 0, none⟩ = some (.int .u32 (un r.a)) := by rw [hblk.cell]; rfl
    have c1 : W.cell? ⟨w1.heap.size, 1, none⟩ = some (.int .u32 (un r.b)) := by rw [hblk.cell]; rfl
    have c2 : W.cell? ⟨w1.heap.size, 2, none⟩ = some (.int .u32 (un r.c)) := by rw [hblk.cell]; rfl
    have c3 : W.cell? ⟨w1.heap.size, 3, none⟩ = some (.int .u32 (un r.d)) := by rw [hblk.cell]; rfl
    have c4 : W.cell? ⟨w1.heap.size, 4, none⟩ = some (.int .u32 (un r.e)) := by rw [hblk.cell]; rfl
    have c5 : W.cell? ⟨w1.heap.size, 5, none⟩ = some (.int .u32 (un r.f)) := by rw [hblk.cell]; rfl
    have c6 : W.cell? ⟨w1.heap.size, 6, none⟩ = some (.int .u32 (un r.g)) := by rw [hblk.cell]; rfl
    have c7 : W.cell? ⟨w1.heap.size, 7, none⟩ = some (.int .u32 (un r.h)) := by rw [hblk.cell]; rfl
    have HBE := Lib.hid hbel
    clear hix hS hS' hblk hkb hbel
    gi_wp2
    gi_loopw [2, 20] (fun v i wr => ∃ k : Nat, k ≤ 8 ∧ i = .int .i64 k ∧ Own w wr 5 1 v (outB (r.ws.take k)).length ((outB (r.ws.take k)).map u8c) ∧ wr.heap[D]? = some (.deferred (some []))) (fun _ i _ => 8 - (intOf i).toNat)
    case atStart => exact ⟨0, by omega, rfl, Own.nil' HBE.out _ _, hKd⟩
    case round =>
      obtain ⟨k, hk, rfl, hown, hDk⟩ := hrel
      by_cases hlt : k < 8
      · have hix := HIX.out k hlt
        have HSN := Lib.hid (HOS.out k (by rw [HWL.out]; exact hlt))
        have hol : (outB (r.ws.take k)).length ≤ 32 := by rw [HOL.out k]; have := List.length_take_le k r.ws; omega
        generalize r.ws.getD k 0 = x at *
        generalize outB (r.ws.take k) = U at *
        have HP := Lib.hid (show Calls Tryz.prog 73 #[.int .u64 (un x), .int .i64 4] wr (RetBs wr (be x.toNat 4)) from put_yes x.toNat 4 wr (by have := u32_lt x; omega) (by omega) (by omega))
        have r3 : IntKind.u64.wrap (un x) = un x := wrap_u64 (un_nn x) (by have := un_lt x; omega)
        have HBL := Lib.hid (be_length 4 x.toNat)
        have hnD := hown.notD hDk
        have hDl : D < wr.heap.size := (Array.getElem?_eq_some_iff.1 hDk).1
        have HO := Lib.hid hown; have HDk := Lib.hid hDk; have HND := Lib.hid hnD
        clear hown hDk hnD
        gi_wp2_with (first
          | (refine ⟨trivial, ?_⟩; gi_at_call 73; refine (callsIn_wide.2 HP.out).mono ?_; rintro e w7 ⟨v7, rfl, o7⟩; obtain ⟨A7, c7, rfl, s7⟩ := o7.slice; have HO7 := Lib.hid (HO.out.mono o7.below); have hl4 : (be x.toNat 4).length ≤ 4 := (by rw [HBL.out]; omega); have HS7 := Lib.hid s7; have HB7 := Lib.hid o7.below; clear o7 s7)
          | (gi_at_builtin; refine wpListIn_catG rfl (.tmp 23) (.tmp 26) 28 rfl tBytes rfl HO7.out rfl HS7.out (one_bytes _) (by omega) ?_; intro v8 w8 o8 kp8))
        have HF : Hid (Own w w8 5 1 v8 (outB (r.ws.take (k + 1))).length ((outB (r.ws.take (k + 1))).map u8c) ∧ w8.heap[D]? = some (.deferred (some []))) := by
          refine ⟨?_, ?_⟩
          · rw [HSN.out, List.length_append, List.map_append]; exact o8
          · rw [kp8.1 D (by have := HB7.out.size; omega) HND.out, HB7.out.block D hDl]; exact HDk.out
        clear o8 kp8
        go_roundw
        case rel => exact ⟨k + 1, by omega, by go_num, HF.out.1, HF.out.2⟩
        case measure => simp [intOf]; omega
      · obtain rfl : k = 8 := by omega
        have hown2 : Own w wr 5 1 u2 (sumL l).length ((sumL l).map u8c) := by
          rw [HSU.out]
          rw [List.take_of_length_le (by rw [HWL.out]; omega)] at hown
          exact hown
        have hnD := hown.notD hDk
        have hfin : RetBs w (sumL l) (.returned u2) (wr.putObj D (.deferred none)) := by
          have hg := grownBy_putObj' wr D (.deferred none)
          have hbw : Below w.heap.size w (wr.putObj D (.deferred none)) := hown.2.grown hg hown.2.size (fun k e => by cases e; omega)
          refine ⟨_, rfl, ⟨hown2.1.1, ?_⟩, hbw⟩
          rcases hown2.1.2 with h | ⟨g, cap, cur, rfl, hg2, hh, rr⟩
          · exact .inl h
          · exact .inr ⟨g, cap, cur, rfl, hg2, by rw [World.putObj_heap_other (fun e => hnD (by rw [← e]; rfl))]; exact hh, rr⟩
        have HF := Lib.hid hfin
        clear hown hown2 hfin hnD
        gi_wp2
        refine ⟨by simp, .inl ⟨_, _, rfl, run_takeDeferred hDk, ?_⟩⟩
        exact ⟨_, results_tmp Tryz.results146 _ _ _, HF.out⟩
  case stop =>
    rintro D cc pre W _ _ hf _
    exact hf.elim
end Go.Proofs.YtcfbbgbjlgonpaaGreatDoor
