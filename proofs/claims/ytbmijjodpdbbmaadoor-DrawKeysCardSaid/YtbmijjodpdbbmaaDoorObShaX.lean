import Derived.Test.YtbmijjodpdbbmaaDoorObShaW
import Derived.Outline
import Derived.Laws.Rows
import Derived.Laws.Tables
import Derived.Deep.RegionHeld3
import Derived.IntWalk
import Derived.Laws.CopyRow
namespace Go.Proofs.YtbmijjodpdbbmaaDoor
open Go.RowKit
set_option linter.unusedVariables false

theorem Sl.part {w : World} {b o n c : Nat} {l : List UInt8} (h : Bs w (some ⟨b, o, none⟩) n c l) {lo m : Nat} (hk : lo + m ≤ n) : Bs w (some ⟨b, o + lo, none⟩) m (c - lo) ((l.drop lo).take m) := by
  have h1 := Sl.from (A' := some ⟨b, o + lo, none⟩) h (show lo ≤ n by omega) (fun _ b' o' e => by injection e with e; injection e with e1 e2; subst e1 e2; rfl)
  have h2 := Sl.upto h1 (show m ≤ n - lo by omega)
  rw [← List.map_drop, ← List.map_take] at h2
  exact h2
theorem run_part (b o c t : Nat) (h : 4 * t + 4 ≤ c) (h2 : t < 16) (w : World) : (Instr.slice 22 (.slice (some ⟨b, o, none⟩) 64 c) (some (.int .i64 (4 * (t : Int)))) (some (.int .i64 (4 * ((t : Int) + 1)))) none).run Tryd.prog w = .ok (.slice (some ⟨b, o + 4 * t, none⟩) 4 (c - 4 * t)) w := by
  obtain ⟨i, hi, hz, hsz, hby⟩ := info_parts tBytes.info
  have he : Tryd.prog.elem 22 = 5 := by simp [Program.elem, tBytes.und]
  have hu : Tryd.prog.underlying 22 = some (.slice (Tryd.prog.elem 22)) := by rw [he]; exact tBytes.und
  rw [run_slice_lh w 22 (some ⟨b, o, none⟩) 64 c hu .i64 .i64 (4 * (t : Int)) (4 * ((t : Int) + 1)) (by omega) (by omega) (by omega)]
  have e1 : (4 * (t : Int)).toNat = 4 * t := by omega
  have e2 : (4 * ((t : Int) + 1)).toNat - 4 * t = 4 := by omega
  have e3 : ¬ c - 4 * t = 0 := by omega
  simp [sizeOf, typeInfo, he, hi, Result.andThen, sliced, hsz, e1, e2, add_flat]
  omega
theorem word_get (l : List UInt8) (t : Nat) : (getL ((l.drop (4 * t)).take 4) : Int) = un (wordAt l t) := by
  unfold wordAt un
  have h := getL_lt ((l.drop (4 * t)).take 4)
  have h2 : ((l.drop (4 * t)).take 4).length ≤ 4 := List.length_take_le _ _
  have h3 : (256 : Nat) ^ ((l.drop (4 * t)).take 4).length ≤ 256 ^ 4 := Nat.pow_le_pow_right (by decide) h2
  rw [UInt32.toNat_ofNat_of_lt' (by show _ < 4294967296; omega)]

theorem below_row {B : Nat} {w0 w : World} {g : Nat} (h : Below B w0 w) (hg : B ≤ g) (cs : Array Value) : Below B w0 (w.setRow g cs) :=
  ⟨h.os, h.tape, h.output, by simpa [World.setRow] using h.size, fun k hk => by
    have hne : g ≠ k := by omega
    rw [← h.block k hk]
    simp [World.setRow, Array.getElem?_modify, hne]⟩
theorem all_one_words (ws : List UInt32) : (ws.map u32c).toArray.all (·.oneCell') = true := by
  rw [List.all_toArray, List.all_eq_true]
  intro v hv
  obtain ⟨x, _, rfl⟩ := List.mem_map.1 hv
  rfl
set_option maxRecDepth 100000 in
set_option maxHeartbeats 1000000 in
theorem words_any (A : Option Addr) (c : Nat) (l : List UInt8) (w : World) (h : Bs w A 64 c l) :
    Calls Tryd.prog 175 #[.slice A 64 c] w fun e w' => e = .returned (.agg ((wTo l 64).map u32c).toArray) ∧ Below w.heap.size w w' := by
  obtain ⟨b, o, rfl, hcell⟩ := h.addr (by omega)
  have hcap := h.cap
  have hmax := h.max
  have HH := Lib.hid h; clear h hcell
  have hblt : b < w.heap.size := by
    obtain ⟨b', o', e, hc⟩ := HH.out.addr (by omega)
    injection e with e
    injection e with e1 e2
    subst e1 e2
    exact World.block_lt_of_cell? w _ (hc 0 (by omega))
  go_enter Tryd.func175, Tryd.ntmps175
  go_wp2
  go_loopw [12] (fun i wr => ∃ t : Nat, t ≤ 64 ∧ i = .int .i64 t ∧ Blk wr w.heap.size 153 (wCells l t) ∧ Below w.heap.size w wr) (fun i _ => 64 - (intOf i).toNat)
  case atStart => exact ⟨0, by omega, rfl, Blk.new w _ _, (Below.refl _ _).alloc (Nat.le_refl _) _⟩
  case round =>
    obtain ⟨t, ht, rfl, hblk, hbel⟩ := hrel
    have HBK := Lib.hid hblk
    by_cases hlt : t < 64
    · have hfree := hblk.free t
      have hat : wr.cell? ⟨w.heap.size, t, none⟩ = some (.int .u32 0) := by rw [hblk.cell]; exact wCells_rest l t hlt
      clear hblk
      by_cases h16 : t < 16
      · have hsl : ∀ w', (Instr.slice 22 (.slice (some ⟨b, o, none⟩) 64 c) (some (.int .i64 (4 * (t : Int)))) (some (.int .i64 (4 * ((t : Int) + 1)))) none).run Tryd.prog w' = .ok (.slice (some ⟨b, o + 4 * t, none⟩) 4 (c - 4 * t)) w' := run_part b o c t (by omega) (by omega)
        have HG := Lib.hid (get_yes (some ⟨b, o + 4 * t, none⟩) 4 (c - 4 * t) _ wr (Sl.part (HH.out.mono hbel) (lo := 4 * t) (m := 4) (by omega)) (by omega) (by omega))
        rw [word_get] at HG
        have HS := Lib.hid (wCells_set l t (wordAt l t) hlt (if_pos h16))
        have u1 := un_nn (wordAt l t)
        have u2 := un_lt (wordAt l t)
        have u3 : IntKind.u32.wrap (un (wordAt l t)) = un (wordAt l t) := by rw [IntKind.wrap_u32]; omega
        generalize wordAt l t = x at *
        have U3 := Lib.hid u3
        clear u1 u2 u3
        go_wp2_with fail
        refine HG.out.mono ?_
        rintro e w' ⟨rfl, rfl⟩
        have u3 := U3.out
        go_wp2
        go_roundw
        case rel => exact ⟨t + 1, by omega, by go_num, by rw [← HS.out]; exact HBK.out.set t _, hbel.setCell (p := ⟨w.heap.size, t, none⟩) (Nat.le_refl _) _⟩
        case measure => simp [intOf]; omega
      · have HS := Lib.hid (wCells_set l t (wNext (wTo l t) t) hlt (if_neg h16))
        have HNX : Hid (wNext (wTo l t) t = sg1 ((wTo l t).getD (t - 2) 0) + (wTo l t).getD (t - 7) 0 + sg0 ((wTo l t).getD (t - 15) 0) + (wTo l t).getD (t - 16) 0) := rfl
        obtain ⟨j2, x2, hj2, hx2, a2⟩ : ∃ j x, j + 2 = t ∧ (wTo l t).getD (t - 2) 0 = x ∧ wr.cell? ⟨w.heap.size, j, none⟩ = some (.int .u32 (un x)) := ⟨t - 2, _, by omega, rfl, by rw [HBK.out.cell]; exact wCells_at l t _ (by omega)⟩
        have k2 : Hid (∀ v, (wr.setCell ⟨w.heap.size, t, none⟩ v).drew.cell? ⟨w.heap.size, j2, none⟩ = some (.int .u32 (un x2))) := fun v => ((HBK.out.set t v).drew.cell j2).trans (by rw [List.getElem?_set_ne (by omega), ← HBK.out.cell]; exact a2)
        have i2 : IntKind.i64.wrap ((t : Int) - 2) = (j2 : Int) := by rw [IntWalk.i64_in _ (by omega)]; omega
        have p2 : (0 : Int) ≤ (j2 : Int) := by omega
        have q2 : (j2 : Int) < 64 := by omega
        obtain ⟨j7, x7, hj7, hx7, a7⟩ : ∃ j x, j + 7 = t ∧ (wTo l t).getD (t - 7) 0 = x ∧ wr.cell? ⟨w.heap.size, j, none⟩ = some (.int .u32 (un x)) := ⟨t - 7, _, by omega, rfl, by rw [HBK.out.cell]; exact wCells_at l t _ (by omega)⟩
        have k7 : Hid (∀ v, (wr.setCell ⟨w.heap.size, t, none⟩ v).drew.cell? ⟨w.heap.size, j7, none⟩ = some (.int .u32 (un x7))) := fun v => ((HBK.out.set t v).drew.cell j7).trans (by rw [List.getElem?_set_ne (by omega), ← HBK.out.cell]; exact a7)
        have i7 : IntKind.i64.wrap ((t : Int) - 7) = (j7 : Int) := by rw [IntWalk.i64_in _ (by omega)]; omega
        have p7 : (0 : Int) ≤ (j7 : Int) := by omega
        have q7 : (j7 : Int) < 64 := by omega
        obtain ⟨j15, x15, hj15, hx15, a15⟩ : ∃ j x, j + 15 = t ∧ (wTo l t).getD (t - 15) 0 = x ∧ wr.cell? ⟨w.heap.size, j, none⟩ = some (.int .u32 (un x)) := ⟨t - 15, _, by omega, rfl, by rw [HBK.out.cell]; exact wCells_at l t _ (by omega)⟩
        have k15 : Hid (∀ v, (wr.setCell ⟨w.heap.size, t, none⟩ v).drew.cell? ⟨w.heap.size, j15, none⟩ = some (.int .u32 (un x15))) := fun v => ((HBK.out.set t v).drew.cell j15).trans (by rw [List.getElem?_set_ne (by omega), ← HBK.out.cell]; exact a15)
        have i15 : IntKind.i64.wrap ((t : Int) - 15) = (j15 : Int) := by rw [IntWalk.i64_in _ (by omega)]; omega
        have p15 : (0 : Int) ≤ (j15 : Int) := by omega
        have q15 : (j15 : Int) < 64 := by omega
        obtain ⟨j16, x16, hj16, hx16, a16⟩ : ∃ j x, j + 16 = t ∧ (wTo l t).getD (t - 16) 0 = x ∧ wr.cell? ⟨w.heap.size, j, none⟩ = some (.int .u32 (un x)) := ⟨t - 16, _, by omega, rfl, by rw [HBK.out.cell]; exact wCells_at l t _ (by omega)⟩
        have k16 : Hid (∀ v, (wr.setCell ⟨w.heap.size, t, none⟩ v).drew.cell? ⟨w.heap.size, j16, none⟩ = some (.int .u32 (un x16))) := fun v => ((HBK.out.set t v).drew.cell j16).trans (by rw [List.getElem?_set_ne (by omega), ← HBK.out.cell]; exact a16)
        have i16 : IntKind.i64.wrap ((t : Int) - 16) = (j16 : Int) := by rw [IntWalk.i64_in _ (by omega)]; omega
        have p16 : (0 : Int) ≤ (j16 : Int) := by omega
        have q16 : (j16 : Int) < 64 := by omega
        have p0 : (0 : Int) ≤ (t : Int) := by omega
        have q0 : (t : Int) < 64 := by omega
        rw [HNX.out, hx2, hx7, hx15, hx16] at HS
        clear HNX hx2 hx7 hx15 hx16 hj2 hj7 hj15 hj16
        have r1 := w_add
        go_wp2
        go_region_held3 (fun w' => w'.cell? ⟨w.heap.size, j2, none⟩ = some (.int .u32 (un x2)) ∧ w'.cell? ⟨w.heap.size, j7, none⟩ = some (.int .u32 (un x7)) ∧ w'.cell? ⟨w.heap.size, j15, none⟩ = some (.int .u32 (un x15)) ∧ w'.cell? ⟨w.heap.size, j16, none⟩ = some (.int .u32 (un x16))) (first | exact ⟨k2.out _, k7.out _, k15.out _, k16.out _⟩ | go_keep)
          (first
            | (go_at_call 180; (with_reducible refine (high_any x2 _).mono ?_); rintro e w' ⟨rfl, rfl⟩)
            | (go_at_call 179; (with_reducible refine (low_any x15 _).mono ?_); rintro e w' ⟨rfl, rfl⟩))
        all_goals
          clear i2 i7 i15 i16
          go_wp2
          go_roundw
          case rel => exact ⟨t + 1, by omega, by go_num, by rw [← HS.out]; exact (HBK.out.set t _).drew, (hbel.setCell (p := ⟨w.heap.size, t, none⟩) (Nat.le_refl _) _).drew⟩
          case measure => simp [intOf]; omega
    · obtain rfl : t = 64 := by omega
      have hl64 := wCells_len l 64 (by omega)
      have HRES : Hid (wCells l 64 = (wTo l 64).map u32c) := wCells_all l
      have hself : ∀ cs, cs = (wCells l 64).toArray → wr.setRow w.heap.size cs = wr := fun cs e => by rw [e]; exact setRow_self wr w.heap.size _ _ (0, 0) HBK.out
      have HONE : Hid ((wCells l 64).toArray.all (·.oneCell') = true) := by rw [HRES.out]; exact all_one_words _
      have HSF := Lib.hid hself; clear hself hblk
      have HLL := Lib.hid hl64; clear hl64
      go_wp2_with (first
        | (refine wpList_load_row rfl 153 (.tmp 2) rfl w.heap.size rfl 153 (wCells l 64).toArray (0, 0) _ HBK.out Tryd.underlying153 rfl (by rw [List.size_toArray, HLL.out]; kernel_rfl) ?_)
        | (refine wpList_store_row rfl 153 (.tmp 2) (.tmp 58) rfl w.heap.size (wCells l 64).toArray rfl rfl 153 (wCells l 64).toArray HBK.out (by rw [List.size_toArray, HLL.out]; kernel_rfl) rfl HONE.out ?_; rw [HSF.out _ rfl]))
      exact bodyPost_ret (v := .agg (wCells l 64).toArray) (results_cell_row Tryd.results175 _ _ w.heap.size 153 _ (0, 0) _ rfl HBK.out Tryd.underlying153 rfl (by rw [List.size_toArray, HLL.out]; kernel_rfl)) rfl ⟨by rw [HRES.out], hbel⟩

set_option maxRecDepth 100000 in
set_option maxHeartbeats 2000000 in
theorem refWords_any (A : Option Addr) (c : Nat) (l : List UInt8) (w : World) (h : Bs w A 64 c l) :
    Calls Tryd.prog 142 #[.slice A 64 c] w fun e w' => e = .returned (.agg ((wTo l 64).map u32c).toArray) ∧ Below w.heap.size w w' := by
  obtain ⟨b, o, rfl, hcell⟩ := h.addr (by omega)
  have hcap := h.cap
  have hmax := h.max
  have HH := Lib.hid h; clear h hcell
  go_enter Tryd.func142, Tryd.ntmps142
  go_wp2
  go_loopw [4] (fun i wr => ∃ t : Nat, t ≤ 16 ∧ i = .int .i64 t ∧ Blk wr (w.heap.size + 1) 153 (wCells l t) ∧ Blk wr w.heap.size 153 (wCells l 0) ∧ Below w.heap.size w wr) (fun i _ => 16 - (intOf i).toNat)
  case atStart => exact ⟨0, by omega, rfl, heap_alloc2_new w _ _, heap_alloc2_old w _ _, ((Below.refl _ _).alloc (Nat.le_refl _) _).alloc (by simp) _⟩
  case round =>
    obtain ⟨t, ht, rfl, hblk, hres, hbel⟩ := hrel
    have HBK := Lib.hid hblk; have HRS := Lib.hid hres; clear hres
    by_cases hlt : t < 16
    · have hfree := hblk.free t
      have hat : wr.cell? ⟨w.heap.size + 1, t, none⟩ = some (.int .u32 0) := by rw [hblk.cell]; exact wCells_rest l t (by omega)
      clear hblk
      have hsl : ∀ w', (Instr.slice 22 (.slice (some ⟨b, o, none⟩) 64 c) (some (.int .i64 (4 * (t : Int)))) (some (.int .i64 (4 * (t : Int) + 4))) none).run Tryd.prog w' = .ok (.slice (some ⟨b, o + 4 * t, none⟩) 4 (c - 4 * t)) w' := fun w' => by
        have := run_part b o c t (by omega) hlt w'
        rwa [show 4 * ((t : Int) + 1) = 4 * (t : Int) + 4 by omega] at this
      have HG := Lib.hid (refGet_yes (some ⟨b, o + 4 * t, none⟩) 4 (c - 4 * t) _ wr (Sl.part (HH.out.mono hbel) (lo := 4 * t) (m := 4) (by omega)) (by omega) (by omega))
      rw [word_get] at HG
      have HS := Lib.hid (wCells_set l t (wordAt l t) (by omega) (if_pos hlt))
      have U3 : Hid (IntKind.u32.wrap (un (wordAt l t)) = un (wordAt l t)) := by have u1 := un_nn (wordAt l t); have u2 := un_lt (wordAt l t); rw [IntKind.wrap_u32]; show _ = _; omega
      generalize wordAt l t = x at *
      go_wp2_with fail
      refine HG.out.mono ?_
      rintro e w' ⟨rfl, rfl⟩
      have u3 := U3.out
      go_wp2
      go_roundw
      case rel => exact ⟨t + 1, by omega, by go_num, by rw [← HS.out]; exact HBK.out.set t _, HRS.out.far (by simp) _, hbel.setCell (p := ⟨w.heap.size + 1, t, none⟩) (by simp) _⟩
      case measure => simp [intOf]; omega
    · obtain rfl : t = 16 := by omega
      clear hblk
      obtain ⟨wo, rfl⟩ : ∃ wo : World, wo = wr := ⟨_, rfl⟩
      go_wp2
      go_loopw [7] (fun i wr => ∃ t : Nat, 16 ≤ t ∧ t ≤ 64 ∧ i = .int .i64 t ∧ Blk wr (w.heap.size + 1) 153 (wCells l t) ∧ Blk wr w.heap.size 153 (wCells l 0) ∧ Below w.heap.size w wr) (fun i _ => 64 - (intOf i).toNat)
      case atStart => exact ⟨16, by omega, by omega, rfl, HBK.out, HRS.out, hbel⟩
      case round =>
        obtain ⟨t, h16, ht, rfl, hblk, hres, hbel⟩ := hrel
        have HBK := Lib.hid hblk; have HRS := Lib.hid hres; clear hres
        by_cases hlt : t < 64
        · have hfree := hblk.free t
          have hat : wr.cell? ⟨w.heap.size + 1, t, none⟩ = some (.int .u32 0) := by rw [hblk.cell]; exact wCells_rest l t hlt
          clear hblk
          have HS := Lib.hid (wCells_set l t (wNext (wTo l t) t) hlt (if_neg (by omega)))
          have HNX : Hid (wNext (wTo l t) t = sg1 ((wTo l t).getD (t - 2) 0) + (wTo l t).getD (t - 7) 0 + sg0 ((wTo l t).getD (t - 15) 0) + (wTo l t).getD (t - 16) 0) := rfl
          obtain ⟨j2, x2, hj2, hx2, a2⟩ : ∃ j x, j + 2 = t ∧ (wTo l t).getD (t - 2) 0 = x ∧ wr.cell? ⟨w.heap.size + 1, j, none⟩ = some (.int .u32 (un x)) := ⟨t - 2, _, by omega, rfl, by rw [HBK.out.cell]; exact wCells_at l t _ (by omega)⟩
          have k2 : Hid (∀ v (W : World), W.heap = (wr.setCell ⟨w.heap.size + 1, t, none⟩ v).heap → W.cell? ⟨w.heap.size + 1, j2, none⟩ = some (.int .u32 (un x2))) := fun v W e => (World.cell?_of_block (w := wr.setCell ⟨w.heap.size + 1, t, none⟩ v) (by rw [e])).trans (((HBK.out.set t v).cell j2).trans (by rw [List.getElem?_set_ne (by omega), ← HBK.out.cell]; exact a2))
          have i2 : IntKind.i64.wrap ((t : Int) - 2) = (j2 : Int) := by rw [IntWalk.i64_in _ (by omega)]; omega
          have p2 : (0 : Int) ≤ (j2 : Int) := by omega
          have q2 : (j2 : Int) < 64 := by omega
          obtain ⟨j7, x7, hj7, hx7, a7⟩ : ∃ j x, j + 7 = t ∧ (wTo l t).getD (t - 7) 0 = x ∧ wr.cell? ⟨w.heap.size + 1, j, none⟩ = some (.int .u32 (un x)) := ⟨t - 7, _, by omega, rfl, by rw [HBK.out.cell]; exact wCells_at l t _ (by omega)⟩
          have k7 : Hid (∀ v (W : World), W.heap = (wr.setCell ⟨w.heap.size + 1, t, none⟩ v).heap → W.cell? ⟨w.heap.size + 1, j7, none⟩ = some (.int .u32 (un x7))) := fun v W e => (World.cell?_of_block (w := wr.setCell ⟨w.heap.size + 1, t, none⟩ v) (by rw [e])).trans (((HBK.out.set t v).cell j7).trans (by rw [List.getElem?_set_ne (by omega), ← HBK.out.cell]; exact a7))
          have i7 : IntKind.i64.wrap ((t : Int) - 7) = (j7 : Int) := by rw [IntWalk.i64_in _ (by omega)]; omega
          have p7 : (0 : Int) ≤ (j7 : Int) := by omega
          have q7 : (j7 : Int) < 64 := by omega
          obtain ⟨j15, x15, hj15, hx15, a15⟩ : ∃ j x, j + 15 = t ∧ (wTo l t).getD (t - 15) 0 = x ∧ wr.cell? ⟨w.heap.size + 1, j, none⟩ = some (.int .u32 (un x)) := ⟨t - 15, _, by omega, rfl, by rw [HBK.out.cell]; exact wCells_at l t _ (by omega)⟩
          have k15 : Hid (∀ v (W : World), W.heap = (wr.setCell ⟨w.heap.size + 1, t, none⟩ v).heap → W.cell? ⟨w.heap.size + 1, j15, none⟩ = some (.int .u32 (un x15))) := fun v W e => (World.cell?_of_block (w := wr.setCell ⟨w.heap.size + 1, t, none⟩ v) (by rw [e])).trans (((HBK.out.set t v).cell j15).trans (by rw [List.getElem?_set_ne (by omega), ← HBK.out.cell]; exact a15))
          have i15 : IntKind.i64.wrap ((t : Int) - 15) = (j15 : Int) := by rw [IntWalk.i64_in _ (by omega)]; omega
          have p15 : (0 : Int) ≤ (j15 : Int) := by omega
          have q15 : (j15 : Int) < 64 := by omega
          obtain ⟨j16, x16, hj16, hx16, a16⟩ : ∃ j x, j + 16 = t ∧ (wTo l t).getD (t - 16) 0 = x ∧ wr.cell? ⟨w.heap.size + 1, j, none⟩ = some (.int .u32 (un x)) := ⟨t - 16, _, by omega, rfl, by rw [HBK.out.cell]; exact wCells_at l t _ (by omega)⟩
          have k16 : Hid (∀ v (W : World), W.heap = (wr.setCell ⟨w.heap.size + 1, t, none⟩ v).heap → W.cell? ⟨w.heap.size + 1, j16, none⟩ = some (.int .u32 (un x16))) := fun v W e => (World.cell?_of_block (w := wr.setCell ⟨w.heap.size + 1, t, none⟩ v) (by rw [e])).trans (((HBK.out.set t v).cell j16).trans (by rw [List.getElem?_set_ne (by omega), ← HBK.out.cell]; exact a16))
          have i16 : IntKind.i64.wrap ((t : Int) - 16) = (j16 : Int) := by rw [IntWalk.i64_in _ (by omega)]; omega
          have p16 : (0 : Int) ≤ (j16 : Int) := by omega
          have q16 : (j16 : Int) < 64 := by omega
          have p0 : (0 : Int) ≤ (t : Int) := by omega
          have q0 : (t : Int) < 64 := by omega
          rw [HNX.out, hx2, hx7, hx15, hx16] at HS
          clear HNX hx2 hx7 hx15 hx16 hj2 hj7 hj15 hj16
          have r1 := w_add
          have r2 := w_xor
          have s2 := shr10 x2
          have s15 := shr3 x15
          have n2 := un_nn x2
          have n15 := un_nn x15
          go_wp2
          go_quiet (fail)
          go_wp2
          go_region_held3 (fun w' => w'.cell? ⟨w.heap.size + 1, j2, none⟩ = some (.int .u32 (un x2)) ∧ w'.cell? ⟨w.heap.size + 1, j7, none⟩ = some (.int .u32 (un x7)) ∧ w'.cell? ⟨w.heap.size + 1, j15, none⟩ = some (.int .u32 (un x15)) ∧ w'.cell? ⟨w.heap.size + 1, j16, none⟩ = some (.int .u32 (un x16))) (first | exact ⟨k2.out _ _ rfl, k7.out _ _ rfl, k15.out _ _ rfl, k16.out _ _ rfl⟩ | go_keep)
            (first
              | (go_at_call 143; (with_reducible refine (refRight17_any x2 _).mono ?_); rintro e w' ⟨rfl, q17, rfl⟩)
              | (go_at_call 143; (with_reducible refine (refRight19_any x2 _).mono ?_); rintro e w' ⟨rfl, q19, rfl⟩)
              | (go_at_call 143; (with_reducible refine (refRight7_any x15 _).mono ?_); rintro e w' ⟨rfl, q7, rfl⟩)
              | (go_at_call 143; (with_reducible refine (refRight18_any x15 _).mono ?_); rintro e w' ⟨rfl, q18, rfl⟩))
          all_goals
            clear i2 i7 i15 i16
            go_wp2
            go_roundw
            case rel =>
              (repeat apply Exists.intro)
              exact ⟨⟨t + 1, by omega, by omega, by go_num, by rw [← HS.out]; exact HBK.out.set t _, HRS.out.far (p := ⟨w.heap.size + 1, t, none⟩) (by simp) _, (hbel.setCell (p := ⟨w.heap.size + 1, t, none⟩) (by simp) _).trans ⟨rfl, rfl, rfl, Nat.le_refl _, fun _ _ => rfl⟩⟩, rfl⟩
            case measure => simp [intOf]; omega
        · obtain rfl : t = 64 := by omega
          have HL0 := Lib.hid (wCells_len l 0 (by omega))
          have HLL := Lib.hid (wCells_len l 64 (by omega))
          have HRES : Hid (wCells l 64 = (wTo l 64).map u32c) := wCells_all l
          have HONE : Hid ((wCells l 64).toArray.all (·.oneCell') = true) := by rw [HRES.out]; exact all_one_words _
          have HNEW : Hid ((wr.setRow w.heap.size (wCells l 64).toArray).heap[w.heap.size]? = some (.cells (wCells l 64).toArray 153 (0, 0))) := setRow_heap wr w.heap.size _ _ _ _ HRS.out
          have HBW : Hid (Below w.heap.size w (wr.setRow w.heap.size (wCells l 64).toArray)) := below_row hbel (Nat.le_refl _) _
          clear hblk
          go_wp2_with (first
            | (refine wpList_load_row rfl 153 (.tmp 3) rfl (w.heap.size + 1) rfl 153 (wCells l 64).toArray (0, 0) _ HBK.out Tryd.underlying153 rfl (by rw [List.size_toArray, HLL.out]; kernel_rfl) ?_)
            | (refine wpList_store_row rfl 153 (.tmp 2) (.tmp 74) rfl w.heap.size (wCells l 64).toArray rfl rfl 153 (wCells l 0).toArray HRS.out (by rw [List.size_toArray, HLL.out]; kernel_rfl) (by rw [List.size_toArray, List.size_toArray, HLL.out, HL0.out]) HONE.out ?_))
          exact bodyPost_ret (v := .agg (wCells l 64).toArray) (results_cell_row Tryd.results142 _ _ w.heap.size 153 _ (0, 0) _ rfl HNEW.out Tryd.underlying153 rfl (by rw [List.size_toArray, HLL.out]; kernel_rfl)) rfl ⟨by rw [HRES.out], HBW.out⟩
end Go.Proofs.YtbmijjodpdbbmaaDoor
