/- Own texts of this claim, one behind the other. No condition. -/
import Derived.Test.YtcfbbgbjlgonpaaGreatDoorObPkAQ

/- AES: Encrypt. No condition. -/
namespace Go.Proofs.YtcfbbgbjlgonpaaGreatDoor
open Go.RowKit
set_option linter.unusedVariables false
set_option linter.unusedSimpArgs false
/-- The key of a round. -/
def keyAt (K : List UInt8) (r : Nat) : List UInt8 := (K.drop (r * 16)).take 16
theorem keyAt_len {K : List UInt8} {r : Nat} (hK : K.length = 240) (hr : r < 15) : (keyAt K r).length = 16 := by unfold keyAt; rw [List.length_take, List.length_drop, hK]; omega
def encStep (K : List UInt8) (i : Nat) (s : List UInt8) : List UInt8 := addL (if i + 1 < 14 then amixL (shiftL (subL s)) else shiftL (subL s)) (keyAt K (i + 1))
def encTo (K s : List UInt8) : Nat → List UInt8
  | 0 => addL s (keyAt K 0)
  | i + 1 => encStep K i (encTo K s i)
def encL (K s : List UInt8) : List UInt8 := encTo K s 14
theorem encTo_len (K s : List UInt8) : ∀ i, (encTo K s i).length = 16
  | 0 => addL_len _ _
  | i + 1 => addL_len _ _
theorem size16c (l : List UInt8) (hl : l.length = 16) : (Tryz.prog.info? 151).map (·.size) = some (l.map u8c).length := by rw [List.length_map, hl]; kernel_rfl
theorem run_keys1 (h : Nat) (w : World) : (Instr.sliceAt 153 (.pointer (some ⟨h, 0, none⟩)) (some (.int .i64 1)) none none).run Tryz.prog w = .ok (.slice (some ⟨h, 16, none⟩) 14 14) w := by kernel_rfl
def z16 : List Value := [.int .u8 0, .int .u8 0, .int .u8 0, .int .u8 0, .int .u8 0, .int .u8 0, .int .u8 0, .int .u8 0, .int .u8 0, .int .u8 0, .int .u8 0, .int .u8 0, .int .u8 0, .int .u8 0, .int .u8 0, .int .u8 0]
def EncMid (w : World) (h : Nat) (K s : List UInt8) (i : Nat) (W : World) : Prop := Gr w W ∧ By W h 153 K ∧ By W (h + 1) 151 (encTo K s i) ∧ By W (h + 2) 151 (List.replicate 16 0)
/-- In a round: the key of the round at block g7. -/
structure EncS (w W : World) (h g7 : Nat) (K ky S : List UInt8) : Prop where
  gr : Gr w W
  c : By W h 153 K
  a : By W (h + 1) 151 S
  b : By W (h + 2) 151 (List.replicate 16 0)
  k : By W g7 151 ky
theorem EncS.mono {w W W' : World} {h g7 : Nat} {K ky S : List UInt8} (x : EncS w W h g7 K ky S) (g : Gr W W') : EncS w W' h g7 K ky S := ⟨x.gr.trans g, g.blk x.c, g.blk x.a, g.blk x.b, g.blk x.k⟩
theorem EncS.put {w W : World} {h g7 : Nat} {K ky S S' : List UInt8} (x : EncS w W h g7 K ky S) (hw : w.heap.size ≤ h) (hg : h + 2 < g7) : EncS w (W.setRow (h + 1) (S'.map u8c).toArray) h g7 K ky S' :=
  ⟨byRow_below x.gr (by omega) _, (setRow_other W (h + 1) h _ (by omega)).trans x.c, x.a.row, (setRow_other W (h + 1) (h + 2) _ (by omega)).trans x.b, (setRow_other W (h + 1) g7 _ (by omega)).trans x.k⟩
set_option maxRecDepth 100000 in
set_option maxHeartbeats 4000000 in
theorem aesEncrypt_any (K s : List UInt8) (hK : K.length = 240) (hs : s.length = 16) (w : World) : Calls Tryz.prog 141 #[arr K, arr s] w fun e w' => e = .returned (arr (encL K s)) ∧ Gr w w' := by
  unfold arr
  obtain ⟨W0, hW0⟩ : ∃ W0, W0 = w.alloc (.cells (K.map u8c).toArray 153) := ⟨_, rfl⟩
  obtain ⟨W, hW⟩ : ∃ W, W = two16 W0 s := ⟨_, rfl⟩
  have hG0 : Gr w W0 := by rw [hW0]; exact Gr.alloc _ _
  have hsz : W0.heap.size = w.heap.size + 1 := by rw [hW0]; simp
  have hC : By W w.heap.size 153 K := by rw [hW]; refine (two16_gr W0 s).blk ?_; rw [hW0]; exact By.new w _ K
  have hG := two16_gr W0 s; have hA := two16_a W0 s; have hB := two16_b W0 s
  rw [← hW] at hG hA hB
  rw [hsz] at hA hB
  unfold two16 at hW
  rw [hW0] at hW
  have HA := Lib.hid hA; have HB := Lib.hid hB; have HC := Lib.hid hC; have HG := Lib.hid (hG0.trans hG); have HW := Lib.hid hW; have HK := Lib.hid hK; have HS := Lib.hid hs
  have HK0 := Lib.hid (keyAt_len (r := 0) hK (by decide))
  have HR0 : Hid (W.rangeAt w.heap.size 0 ((keyAt K 0).map u8c)) := by have := By.range hC 0 16; exact this
  have HAD := Lib.hid (aesAdd_any s (keyAt K 0) hs HK0.out W)
  clear hA hB hC hG hW hK hs hG0 hsz hW0 W0
  go_enter Tryz.func141, Tryz.ntmps141
  go_upto_region 1 with fail
  rw [← HW.out]
  obtain ⟨h, hh⟩ : ∃ h, h = w.heap.size := ⟨_, rfl⟩
  rw [← hh] at HA HB HC HR0 ⊢
  have HH := Lib.hid hh; clear hh
  go_upto_region 2 with (first
    | (refine wpList_load_row rfl 151 (.tmp 3) rfl (h + 1) rfl 151 _ (0, 0) _ HA.out Tryz.underlying151 rfl (size16 _ HS.out) ?_)
    | (refine wpList_load_mid rfl 151 (.tmp 9) rfl h 0 rfl _ _ HR0.out Tryz.underlying151 rfl (size16c _ HK0.out) ?_)
    | (go_at_call 162; refine HAD.out.mono ?_; rintro e w1 ⟨rfl, g1⟩; have G1 := Lib.hid g1; have HA1 : Hid (By w1 (h + 1) 151 s) := g1.blk HA.out; clear g1; unfold arr)
    | (refine wpList_store_row rfl 151 (.tmp 3) (.tmp 11) rfl (h + 1) ((addL s (keyAt K 0)).map u8c).toArray rfl rfl 151 _ HA1.out (size16 _ (addL_len _ _)) (by rw [arr_size, arr_size, HS.out, addL_len]) (arr_one _) ?_))
  obtain ⟨W2, hW2⟩ : ∃ W2, W2 = w1.setRow (h + 1) ((addL s (keyAt K 0)).map u8c).toArray := ⟨_, rfl⟩
  have MID0 : Hid (EncMid w h K s 0 W2) := by
    refine ⟨?_, ?_, ?_, ?_⟩
    · rw [hW2]; exact byRow_below (HG.out.trans G1.out) (by rw [HH.out]; exact Nat.le_succ _) _
    · rw [hW2]; exact (setRow_other w1 (h + 1) h _ (by omega)).trans (G1.out.blk HC.out)
    · rw [hW2]; exact HA1.out.row
    · rw [hW2]; exact (setRow_other w1 (h + 1) (h + 2) _ (by omega)).trans (G1.out.blk HB.out)
  rw [← hW2]
  clear hW2 HA HB HC HA1 HR0 HAD G1
  have hkx := run_keys1 h
  go_wp2_with fail
  go_loopw [14] (fun i wr => ∃ j : Nat, j ≤ 14 ∧ i = .int .i64 (j : Int) ∧ EncMid w h K s j wr) (fun i _ => 14 - (Go.RowKit.intOf i).toNat)
  case atStart => exact ⟨0, Nat.zero_le _, rfl, MID0.out⟩
  case round =>
    obtain ⟨j, hj, rfl, g, hc, ha, hb⟩ := hrel
    have GR := Lib.hid g; have HC := Lib.hid hc; have HA := Lib.hid ha; have HB := Lib.hid hb
    have p0 : (0 : Int) ≤ j := by omega
    obtain ⟨S, hS⟩ : ∃ S, S = encTo K s j := ⟨_, rfl⟩
    rw [← hS] at HA
    have HSL : Hid (S.length = 16) := by show _ = _; rw [hS]; exact encTo_len _ _ _
    have HSE := Lib.hid hS
    by_cases hlt : j < 14
    · have t0 : decide ((j : Int) < 14) = true := decide_eq_true (by omega)
      have q1 : (j : Int) < 14 := by omega
      have HKL := Lib.hid (keyAt_len (r := j + 1) HK.out (by omega))
      have HRJ : Hid (wr.rangeAt h (16 + j * 16) ((keyAt K (j + 1)).map u8c)) := by have := By.range hc ((j + 1) * 16) 16; rw [show 16 + j * 16 = (j + 1) * 16 by omega]; exact this
      clear g hc ha hb hS
      go_upto_region 6 with (first
        | (refine wpList_load_mid rfl 151 (.tmp 17) rfl h (16 + j * 16) rfl _ _ HRJ.out Tryz.underlying151 rfl (size16c _ HKL.out) ?_)
        | (refine wpList_store_row rfl 151 (.tmp 7) (.tmp 18) rfl wr.heap.size ((keyAt K (j + 1)).map u8c).toArray rfl rfl 151 _ (heap_alloc_new wr _) (size16 _ HKL.out) (by rw [arr_size, HKL.out]; rfl) (arr_one _) ?_))
      obtain ⟨g7, hg7⟩ : ∃ g7, g7 = wr.heap.size := ⟨_, rfl⟩
      rw [← hg7]
      obtain ⟨W5, hW5⟩ : ∃ W5, W5 = (wr.alloc (.cells z16.toArray 151)).setRow g7 ((keyAt K (j + 1)).map u8c).toArray := ⟨_, rfl⟩
      have hz : By (wr.alloc (.cells z16.toArray 151)) g7 151 (List.replicate 16 0) := by rw [hg7]; exact heap_alloc_new wr _
      have hG5 : Gr wr W5 := by rw [hW5]; exact byRow_below (Gr.alloc _ _) (Nat.le_of_eq hg7.symm) _
      have HK5 : Hid (By W5 g7 151 (keyAt K (j + 1))) := by rw [hW5]; exact hz.row
      have E5 : Hid (EncS w W5 h g7 K (keyAt K (j + 1)) S) := ⟨GR.out.trans hG5, hG5.blk HC.out, hG5.blk HA.out, hG5.blk HB.out, HK5.out⟩
      have HN5 : Hid (h + 2 < g7) := by show _ < _; rw [hg7]; exact Blk.lt HB.out
      first | rw [← hW5] | (unfold z16 at hW5; rw [← hW5])
      clear hW5 hz hG5 hg7 HC HA HB HRJ GR HK5
      have HSU := Lib.hid (aesSub_any S HSL.out W5)
      have HX1 : Hid ((subL S).length = 16) := by show _ = _; rw [subL_len, HSL.out]
      go_upto_region 7 with (first
        | (refine wpList_load_row rfl 151 (.tmp 3) rfl (h + 1) rfl 151 _ (0, 0) _ E5.out.a Tryz.underlying151 rfl (size16 _ HSL.out) ?_)
        | (go_at_call 165; refine HSU.out.mono ?_; rintro e w6 ⟨rfl, g6⟩; have G6 := Lib.hid g6; have HSH := Lib.hid (aesShift_any (subL S) HX1.out w6); clear g6)
        | (go_at_call 164; refine HSH.out.mono ?_; rintro e w7 ⟨rfl, g7'⟩; have E7 : Hid (EncS w w7 h g7 K (keyAt K (j + 1)) S) := E5.out.mono (G6.out.trans g7'); clear g7'; unfold arr)
        | (refine wpList_store_row rfl 151 (.tmp 3) (.tmp 21) rfl (h + 1) ((shiftL (subL S)).map u8c).toArray rfl rfl 151 _ E7.out.a (size16 _ (shiftL_len _)) (by rw [arr_size, arr_size, HSL.out, shiftL_len]) (arr_one _) ?_))
      have E8 : Hid (EncS w (w7.setRow (h + 1) ((shiftL (subL S)).map u8c).toArray) h g7 K (keyAt K (j + 1)) (shiftL (subL S))) := E7.out.put (Nat.le_of_eq HH.out.symm) HN5.out
      obtain ⟨W8, hW8⟩ : ∃ W8, W8 = w7.setRow (h + 1) ((shiftL (subL S)).map u8c).toArray := ⟨_, rfl⟩
      rw [← hW8] at E8 ⊢
      clear hW8 E7 E5 HSU HSH G6 HX1
      by_cases hm : j + 1 < 14
      · have t3 : decide ((j : Int) + 1 < 14) = true := decide_eq_true (by omega)
        have HST : Hid (encTo K s (j + 1) = addL (amixL (shiftL (subL S))) (keyAt K (j + 1))) := by show encStep K j (encTo K s j) = _; unfold encStep; rw [if_pos hm, ← HSE.out]
        have HMX := Lib.hid (aesMix_any (shiftL (subL S)) (shiftL_len _) W8)
        go_upto_region 9 with (first
          | (refine wpList_load_row rfl 151 (.tmp 3) rfl (h + 1) rfl 151 _ (0, 0) _ E8.out.a Tryz.underlying151 rfl (size16 _ (shiftL_len _)) ?_)
          | (go_at_call 163; refine HMX.out.mono ?_; rintro e w9 ⟨rfl, g9⟩; have E9' : Hid (EncS w w9 h g7 K (keyAt K (j + 1)) (shiftL (subL S))) := E8.out.mono g9; clear g9; unfold arr)
          | (refine wpList_store_row rfl 151 (.tmp 3) (.tmp 27) rfl (h + 1) ((amixL (shiftL (subL S))).map u8c).toArray rfl rfl 151 _ E9'.out.a (size16 _ (amixL_len (shiftL_len _))) (by rw [arr_size, arr_size, shiftL_len, amixL_len (shiftL_len _)]) (arr_one _) ?_))
        have E10 : Hid (EncS w (w9.setRow (h + 1) ((amixL (shiftL (subL S))).map u8c).toArray) h g7 K (keyAt K (j + 1)) (amixL (shiftL (subL S)))) := E9'.out.put (Nat.le_of_eq HH.out.symm) HN5.out
        obtain ⟨W10, hW10⟩ : ∃ W10, W10 = w9.setRow (h + 1) ((amixL (shiftL (subL S))).map u8c).toArray := ⟨_, rfl⟩
        rw [← hW10] at E10 ⊢
        clear hW10 E9' HMX E8
        obtain ⟨X, hX⟩ : ∃ X, X = (amixL (shiftL (subL S))) := ⟨_, rfl⟩
        have HXX := Lib.hid hX
        have HXL : Hid (X.length = 16) := by show _ = _; rw [hX]; exact amixL_len (shiftL_len _)
        have E9 : Hid (EncS w W10 h g7 K (keyAt K (j + 1)) X) := by rw [hX]; exact E10.out
        rw [← hX]
        clear hX
        have HAD := Lib.hid (aesAdd_any X (keyAt K (j + 1)) HXL.out HKL.out W10)
        go_wp2_with (first
          | (refine wpList_load_row rfl 151 (.tmp 3) rfl (h + 1) rfl 151 _ (0, 0) _ E9.out.a Tryz.underlying151 rfl (size16 _ HXL.out) ?_)
          | (refine wpList_load_row rfl 151 (.tmp 7) rfl g7 rfl 151 _ (0, 0) _ E9.out.k Tryz.underlying151 rfl (size16 _ HKL.out) ?_)
          | (go_at_call 162; refine HAD.out.mono ?_; rintro e w11 ⟨rfl, g11⟩; have E11 : Hid (EncS w w11 h g7 K (keyAt K (j + 1)) X) := E9.out.mono g11; clear g11; unfold arr)
          | (refine wpList_store_row rfl 151 (.tmp 3) (.tmp 30) rfl (h + 1) ((addL X (keyAt K (j + 1))).map u8c).toArray rfl rfl 151 _ E11.out.a (size16 _ (addL_len _ _)) (by rw [arr_size, arr_size, HXL.out, addL_len]) (arr_one _) ?_))
        have E12 : Hid (EncS w (w11.setRow (h + 1) ((addL X (keyAt K (j + 1))).map u8c).toArray) h g7 K (keyAt K (j + 1)) (addL X (keyAt K (j + 1)))) := E11.out.put (Nat.le_of_eq HH.out.symm) HN5.out
        go_roundw
        case rel => exact ⟨j + 1, by omega, by go_num, E12.out.gr, E12.out.c, by rw [HST.out, ← HXX.out]; exact E12.out.a, E12.out.b⟩
        case measure => simp [Go.RowKit.intOf]; omega
      · have t3 : decide ((j : Int) + 1 < 14) = false := decide_eq_false (by omega)
        have HST : Hid (encTo K s (j + 1) = addL (shiftL (subL S)) (keyAt K (j + 1))) := by show encStep K j (encTo K s j) = _; unfold encStep; rw [if_neg hm, ← HSE.out]
        go_upto_region 9 with fail
        obtain ⟨X, hX⟩ : ∃ X, X = (shiftL (subL S)) := ⟨_, rfl⟩
        have HXX := Lib.hid hX
        have HXL : Hid (X.length = 16) := by show _ = _; rw [hX]; exact shiftL_len _
        have E9 : Hid (EncS w W8 h g7 K (keyAt K (j + 1)) X) := by rw [hX]; exact E8.out
        rw [← hX]
        clear hX
        have HAD := Lib.hid (aesAdd_any X (keyAt K (j + 1)) HXL.out HKL.out W8)
        go_wp2_with (first
          | (refine wpList_load_row rfl 151 (.tmp 3) rfl (h + 1) rfl 151 _ (0, 0) _ E9.out.a Tryz.underlying151 rfl (size16 _ HXL.out) ?_)
          | (refine wpList_load_row rfl 151 (.tmp 7) rfl g7 rfl 151 _ (0, 0) _ E9.out.k Tryz.underlying151 rfl (size16 _ HKL.out) ?_)
          | (go_at_call 162; refine HAD.out.mono ?_; rintro e w11 ⟨rfl, g11⟩; have E11 : Hid (EncS w w11 h g7 K (keyAt K (j + 1)) X) := E9.out.mono g11; clear g11; unfold arr)
          | (refine wpList_store_row rfl 151 (.tmp 3) (.tmp 30) rfl (h + 1) ((addL X (keyAt K (j + 1))).map u8c).toArray rfl rfl 151 _ E11.out.a (size16 _ (addL_len _ _)) (by rw [arr_size, arr_size, HXL.out, addL_len]) (arr_one _) ?_))
        have E12 : Hid (EncS w (w11.setRow (h + 1) ((addL X (keyAt K (j + 1))).map u8c).toArray) h g7 K (keyAt K (j + 1)) (addL X (keyAt K (j + 1)))) := E11.out.put (Nat.le_of_eq HH.out.symm) HN5.out
        go_roundw
        case rel => exact ⟨j + 1, by omega, by go_num, E12.out.gr, E12.out.c, by rw [HST.out, ← HXX.out]; exact E12.out.a, E12.out.b⟩
        case measure => simp [Go.RowKit.intOf]; omega
    · obtain rfl : j = 14 := by omega
      have HRS : Hid (S = encL K s) := hS
      clear g hc ha hb hS
      go_wp2_with (first
        | (refine wpList_load_row rfl 151 (.tmp 3) rfl (h + 1) rfl 151 _ (0, 0) _ HA.out Tryz.underlying151 rfl (size16 _ HSL.out) ?_)
        | (refine wpList_store_row rfl 151 (.tmp 4) (.tmp 32) rfl (h + 2) (S.map u8c).toArray rfl rfl 151 _ HB.out (size16 _ HSL.out) (by rw [arr_size, arr_size, HSL.out]; rfl) (arr_one _) ?_))
      rw [← HRS.out]
      exact bodyPost_ret (v := arr S) (results_cell_row Tryz.results141 _ _ (h + 2) 151 _ (0, 0) _ rfl HB.out.row Tryz.underlying151 rfl (size16 _ HSL.out)) rfl ⟨rfl, byRow_below GR.out (by rw [HH.out]; omega) _⟩
end Go.Proofs.YtcfbbgbjlgonpaaGreatDoor

/- Counters: Next. No condition. -/
namespace Go.Proofs.YtcfbbgbjlgonpaaGreatDoor
open Go.RowKit
set_option linter.unusedVariables false
set_option linter.unusedSimpArgs false
/-- The byte at place i gets one more; a carry goes on to the left. -/
def ctrUp (c : List UInt8) : Nat → List UInt8
  | 0 => c.set 0 (gB c 0 + 1)
  | i + 1 => if gB c (i + 1) + 1 = 0 then ctrUp (c.set (i + 1) 0) i else c.set (i + 1) (gB c (i + 1) + 1)
def nextL (c : List UInt8) : List UInt8 := ctrUp c 15
theorem ctrUp_len : ∀ (i : Nat) (c : List UInt8), (ctrUp c i).length = c.length
  | 0, c => by simp [ctrUp]
  | i + 1, c => by
    unfold ctrUp
    split
    · rw [ctrUp_len i, List.length_set]
    · simp
theorem nextL_len {c : List UInt8} (h : c.length = 16) : (nextL c).length = 16 := by unfold nextL; rw [ctrUp_len, h]
theorem up_one (x : UInt8) : (ub x + 1) % 256 = ub (x + 1) := byte_all (P := fun x => (ub x + 1) % 256 = ub (x + 1)) (by decide +kernel) x
theorem up_zero (x : UInt8) : (ub x != 0) = !decide (x = 0) := byte_all (P := fun x => (ub x != 0) = !decide (x = 0)) (by decide +kernel) x
theorem gB_set {l : List UInt8} {i : Nat} (x : UInt8) (h : i < l.length) : gB (l.set i x) i = x := by
  unfold gB
  rw [List.getD_eq_getElem?_getD, List.getElem?_set_self h]
  rfl
theorem ctrUp_stop {c : List UInt8} {k : Nat} (h : gB c k + 1 ≠ 0) : ctrUp c k = c.set k (gB c k + 1) := by
  cases k with
  | zero => rfl
  | succ k => unfold ctrUp; rw [if_neg h]
theorem ctrUp_on {c : List UInt8} {k : Nat} (h : gB c (k + 1) + 1 = 0) : ctrUp c (k + 1) = ctrUp (c.set (k + 1) (gB c (k + 1) + 1)) k := by
  rw [h]
  show (if _ then _ else _) = _
  rw [if_pos h]
set_option maxRecDepth 100000 in
set_option maxHeartbeats 1000000 in
theorem ctrNext_any (l : List UInt8) (hl : l.length = 16) (w : World) : Calls Tryz.prog 142 #[arr l] w fun e w' => e = .returned (arr (nextL l)) ∧ Gr w w' := by
  unfold arr
  obtain ⟨W, hW⟩ : ∃ W, W = two16 w l := ⟨_, rfl⟩
  have hG := two16_gr w l; have hA := two16_a w l; have hB := two16_b w l
  rw [← hW] at hG hA hB
  unfold two16 at hW
  have HSL := Lib.hid (nextL_len hl)
  have HA := Lib.hid hA; have HB := Lib.hid hB; have HG := Lib.hid hG; have HW := Lib.hid hW; have HL := Lib.hid hl
  clear hA hB hG hW hl
  go_enter Tryz.func142, Tryz.ntmps142
  go_upto_region 1 with fail
  rw [← HW.out]
  obtain ⟨h, hh⟩ : ∃ h, h = w.heap.size := ⟨_, rfl⟩
  rw [← hh] at HA HB ⊢
  have HH := Lib.hid hh; clear hh
  go_wp2_with fail
  first | go_step3 | skip
  go_wp2_with fail
  first | go_step3 | skip
  go_wp2_with fail
  go_loopw [3] (fun i wr => ∃ c : List UInt8, c.length = 16 ∧ Gr w wr ∧ By wr h 151 c ∧ By wr (h + 1) 151 (List.replicate 16 0) ∧ ((∃ k : Nat, k ≤ 15 ∧ i = .int .i64 (k : Int) ∧ ctrUp c k = nextL l) ∨ (i = .int .i64 (-1) ∧ c = nextL l))) (fun i _ => (Go.RowKit.intOf i + 1).toNat)
  case atStart => exact ⟨l, HL.out, HG.out, HA.out, HB.out, .inl ⟨15, by decide, rfl, rfl⟩⟩
  case round =>
    obtain ⟨c, hcl, g, ha, hb, hor⟩ := hrel
    have GR := Lib.hid g; have HA1 := Lib.hid ha; have HB1 := Lib.hid hb; have HCL := Lib.hid hcl
    rcases hor with ⟨k, hk, rfl, hup⟩ | ⟨rfl, rfl⟩
    · have t0 : decide ((0 : Int) ≤ (k : Int)) = true := decide_eq_true (by omega)
      have p0 : (0 : Int) ≤ k := by omega
      have p1 : (k : Int) < 16 := by omega
      obtain ⟨x, hx⟩ : ∃ x, x = gB c k := ⟨_, rfl⟩
      have cc := ha.at (i := k) (by omega)
      rw [← hx] at cc
      have ff := Blk.free ha k
      have e1 := up_one x
      have hz := up_zero (x + 1)
      have HC2 : Hid (By (wr.setCell ⟨h, k, none⟩ (.int .u8 (ub (x + 1)))) h 151 (c.set k (x + 1))) := ha.put k _
      have c2 := HC2.out.at (i := k) (by rw [List.length_set]; omega)
      rw [gB_set _ (by omega)] at c2
      have HUP := Lib.hid hup; have HX := Lib.hid hx; have HKK := Lib.hid hk
      have HB2 : Hid (By (wr.setCell ⟨h, k, none⟩ (.int .u8 (ub (x + 1)))) (h + 1) 151 (List.replicate 16 0)) := (Below.heap_setCell _ ⟨h, k, none⟩ _ (h + 1) (by show h + 1 ≠ h; omega)).trans hb
      have HG2 : Hid (Gr w (wr.setCell ⟨h, k, none⟩ (.int .u8 (ub (x + 1))))) := g.setCell (p := ⟨h, k, none⟩) (by rw [HH.out]; exact Nat.le_refl _) _
      have HCS : Hid ((c.set k (x + 1)).length = 16) := by show _ = _; rw [List.length_set, hcl]
      clear g ha hb hcl hup hx
      by_cases hq : x + 1 = 0
      · rw [decide_eq_true hq] at hz
        have HQ := Lib.hid hq; clear hq
        go_wp2_with fail
        go_roundw
        case rel =>
          refine ⟨c.set k (x + 1), HCS.out, HG2.out, HC2.out, HB2.out, ?_⟩
          cases k with
          | zero =>
            refine .inr ⟨by simp, ?_⟩
            rw [← HUP.out, HX.out]
            rfl
          | succ m =>
            refine .inl ⟨m, by omega, by go_num, ?_⟩
            rw [← HUP.out, HX.out, ctrUp_on (by have := HQ.out; rw [HX.out] at this; exact this)]
        case measure => simp [Go.RowKit.intOf]
      · rw [decide_eq_false hq] at hz
        have HE : Hid (c.set k (x + 1) = nextL l) := by show _ = _; rw [← HUP.out, HX.out]; exact (ctrUp_stop (by rw [← HX.out]; exact hq)).symm
        clear hq
        go_wp2_with (first
          | (refine wpList_load_row rfl 151 (.tmp 1) rfl h rfl 151 _ (0, 0) _ HC2.out Tryz.underlying151 rfl (size16 (c.set k (x + 1)) HCS.out) ?_)
          | (refine wpList_store_row rfl 151 (.tmp 2) (.tmp 17) rfl (h + 1) ((c.set k (x + 1)).map u8c).toArray rfl rfl 151 _ HB2.out (size16 (c.set k (x + 1)) HCS.out) (by rw [arr_size, arr_size, HCS.out]; rfl) (arr_one _) ?_))
        try rw [Exit.noGoto_ret]
        exact bodyPost_ret (v := arr (c.set k (x + 1))) (results_cell_row Tryz.results142 _ _ (h + 1) 151 _ (0, 0) _ rfl (By.row HB2.out) Tryz.underlying151 rfl (size16 (c.set k (x + 1)) HCS.out)) rfl ⟨congrArg (fun z => Ending.returned (arr z)) (HE.out), byRow_below HG2.out (by rw [HH.out]; exact Nat.le_succ _) _⟩
    · have t0 : decide ((0 : Int) ≤ -1) = false := by decide
      clear g ha hb hcl
      go_wp2_with (first
        | (refine wpList_load_row rfl 151 (.tmp 1) rfl h rfl 151 _ (0, 0) _ HA1.out Tryz.underlying151 rfl (size16 (nextL l) HSL.out) ?_)
        | (refine wpList_store_row rfl 151 (.tmp 2) (.tmp 17) rfl (h + 1) ((nextL l).map u8c).toArray rfl rfl 151 _ HB1.out (size16 (nextL l) HSL.out) (by rw [arr_size, arr_size, HSL.out]; rfl) (arr_one _) ?_))
      try rw [Exit.noGoto_ret]
      exact bodyPost_ret (v := arr (nextL l)) (results_cell_row Tryz.results142 _ _ (h + 1) 151 _ (0, 0) _ rfl (By.row HB1.out) Tryz.underlying151 rfl (size16 (nextL l) HSL.out)) rfl ⟨congrArg (fun z => Ending.returned (arr z)) (rfl), byRow_below GR.out (by rw [HH.out]; exact Nat.le_succ _) _⟩
end Go.Proofs.YtcfbbgbjlgonpaaGreatDoor
