/- Own texts of this claim, one behind the other. No condition. -/
import Derived.Test.YtcfbbgbjlgonpaaGreatDoorObPkBF

/- The reference of layer 11: Sub, Shift, Add. No condition. -/
namespace Go.Proofs.YtcfbbgbjlgonpaaGreatDoor
open Go.RowKit
set_option linter.unusedVariables false
set_option linter.unusedSimpArgs false
/-- Three blocks of bytes of the call's own, one behind the other. -/
structure S3 (w : World) (t : TypeId) (h : Nat) (A B C : List UInt8) (W : World) : Prop where
  gr : Gr w W
  a : By W h t A
  b : By W (h + 1) t B
  c : By W (h + 2) t C
theorem S3.mono {w W W' : World} {t : TypeId} {h : Nat} {A B C : List UInt8} (x : S3 w t h A B C W) (g : Gr W W') : S3 w t h A B C W' := ⟨x.gr.trans g, g.blk x.a, g.blk x.b, g.blk x.c⟩
theorem S3.putC {w W : World} {t : TypeId} {h : Nat} {A B C : List UInt8} (x : S3 w t h A B C W) (hw : w.heap.size ≤ h) (k : Nat) (v : UInt8) : S3 w t h A B (C.set k v) (W.setCell ⟨h + 2, k, none⟩ (.int .u8 (ub v))) :=
  ⟨x.gr.setCell (p := ⟨h + 2, k, none⟩) (Nat.le_trans hw (Nat.le_add_right _ _)) _, (Below.heap_setCell _ ⟨h + 2, k, none⟩ _ h (by show h ≠ h + 2; omega)).trans x.a, (Below.heap_setCell _ ⟨h + 2, k, none⟩ _ (h + 1) (by show h + 1 ≠ h + 2; omega)).trans x.b, x.c.put k v⟩
theorem S3.putA {w W : World} {t : TypeId} {h : Nat} {A B C : List UInt8} (x : S3 w t h A B C W) (hw : w.heap.size ≤ h) (k : Nat) (v : UInt8) : S3 w t h (A.set k v) B C (W.setCell ⟨h, k, none⟩ (.int .u8 (ub v))) :=
  ⟨x.gr.setCell (p := ⟨h, k, none⟩) hw _, x.a.put k v, (Below.heap_setCell _ ⟨h, k, none⟩ _ (h + 1) (by show h + 1 ≠ h; omega)).trans x.b, (Below.heap_setCell _ ⟨h, k, none⟩ _ (h + 2) (by show h + 2 ≠ h; omega)).trans x.c⟩
set_option maxRecDepth 100000 in
set_option maxHeartbeats 1000000 in
theorem refSub_any (l : List UInt8) (hl : l.length = 16) (w : World) : Calls Tryz.prog 195 #[arr l] w fun e w' => e = .returned (arr (subL l)) ∧ Gr w w' := by
  unfold arr
  obtain ⟨W, hW⟩ : ∃ W, W = two16 w l := ⟨_, rfl⟩
  have hG := two16_gr w l; have hA := two16_a w l; have hB := two16_b w l
  rw [← hW] at hG hA hB
  unfold two16 at hW
  have hsl : (subL l).length = 16 := by rw [subL_len, hl]
  have HA := Lib.hid hA; have HB := Lib.hid hB; have HG := Lib.hid hG; have HW := Lib.hid hW; have HL := Lib.hid hl; have HSL := Lib.hid hsl
  clear hA hB hG hW hl hsl
  go_enter Tryz.func195, Tryz.ntmps195
  go_upto_region 1 with fail
  rw [← HW.out]
  obtain ⟨h, hh⟩ : ∃ h, h = w.heap.size := ⟨_, rfl⟩
  rw [← hh] at HA HB ⊢
  have HH := Lib.hid hh; clear hh
  go_wp2_with fail
  go_loopw [3] (fun i wr => ∃ k : Nat, k ≤ 16 ∧ i = .int .i64 (k : Int) ∧ Gr w wr ∧ By wr h 151 (mixB l (subL l) k) ∧ By wr (h + 1) 151 (List.replicate 16 0)) (fun i _ => 16 - (Go.RowKit.intOf i).toNat)
  case atStart => exact ⟨0, Nat.zero_le _, rfl, HG.out, by rw [mixB_zero]; exact HA.out, HB.out⟩
  case round =>
    obtain ⟨k, hk, rfl, g, ha, hb⟩ := hrel
    have GR := Lib.hid g; have HA1 := Lib.hid ha; have HB1 := Lib.hid hb
    have p0 : (0 : Int) ≤ k := by omega
    by_cases hlt : k < 16
    · have t0 : decide ((k : Int) < 16) = true := decide_eq_true (by omega)
      have p16 : (k : Int) < 16 := by omega
      have c1 := ha.at (i := k) (by rw [mixB_len HL.out HSL.out (by omega)]; exact hlt)
      rw [mixB_at HL.out HSL.out hlt] at c1
      have HV : Hid (gB (subL l) k = boxB (gB l k)) := gB_map _ _ _ (by rw [HL.out]; exact hlt)
      have HBX := Lib.hid (refBox_any (gB l k) wr)
      have HM : Hid ((mixB l (subL l) k).length = 16) := mixB_len HL.out HSL.out (by omega)
      clear g ha hb
      go_wp2_with (go_at_call 208; refine HBX.out.mono ?_; rintro e w2 ⟨rfl, k1, hw2⟩; have GR2 : Hid (Gr w w2) := (by rw [hw2]; exact belowN GR.out k1); have HA2 : Hid (By w2 h 151 (mixB l (subL l) k)) := (by rw [hw2]; exact HA1.out); have HB2 : Hid (By w2 (h + 1) 151 (List.replicate 16 0)) := (by rw [hw2]; exact HB1.out); have cc := HA2.out.at (i := k) (by rw [HM.out]; exact hlt); have ff := Blk.free HA2.out k; clear hw2)
      go_roundw
      case rel =>
        refine ⟨k + 1, by omega, by go_num, GR2.out.setCell (p := ⟨h, k, none⟩) (by rw [HH.out]; exact Nat.le_refl _) _, ?_, ?_⟩
        · rw [← mixB_set HL.out HSL.out hlt, HV.out]
          exact HA2.out.put k _
        · exact (Below.heap_setCell _ ⟨h, k, none⟩ _ (h + 1) (by show h + 1 ≠ h; omega)).trans HB2.out
      case measure => simp [Go.RowKit.intOf]; omega
    · obtain rfl : k = 16 := by omega
      rw [mixB_all HL.out HSL.out] at ha
      have HA2 := Lib.hid ha
      clear g ha hb HA1
      go_wp2_with (first
        | (refine wpList_load_row rfl 151 (.tmp 1) rfl h rfl 151 _ (0, 0) _ HA2.out Tryz.underlying151 rfl (size16 _ HSL.out) ?_)
        | (refine wpList_store_row rfl 151 (.tmp 2) (.tmp 14) rfl (h + 1) ((subL l).map u8c).toArray rfl rfl 151 _ HB1.out (size16 _ HSL.out) (by rw [arr_size, arr_size, HSL.out]; rfl) (arr_one _) ?_))
      exact bodyPost_ret (v := arr (subL l)) (results_cell_row Tryz.results195 _ _ (h + 1) 151 _ (0, 0) _ rfl HB1.out.row Tryz.underlying151 rfl (size16 _ HSL.out)) rfl ⟨rfl, byRow_below GR.out (by rw [HH.out]; exact Nat.le_succ _) _⟩
/-! ### Add -/
set_option maxRecDepth 100000 in
set_option maxHeartbeats 2000000 in
theorem refAdd_any (l m : List UInt8) (hl : l.length = 16) (hm : m.length = 16) (w : World) : Calls Tryz.prog 193 #[arr l, arr m] w fun e w' => e = .returned (arr (addL l m)) ∧ Gr w w' := by
  unfold arr
  obtain ⟨W0, hW0⟩ : ∃ W0, W0 = w.alloc (.cells (l.map u8c).toArray 151) := ⟨_, rfl⟩
  obtain ⟨W, hW⟩ : ∃ W, W = two16 W0 m := ⟨_, rfl⟩
  have hG0 : Gr w W0 := by rw [hW0]; exact Gr.alloc _ _
  have hs : W0.heap.size = w.heap.size + 1 := by rw [hW0]; simp
  have hC : By W w.heap.size 151 l := by rw [hW]; refine (two16_gr W0 m).blk ?_; rw [hW0]; exact By.new w _ l
  have hG := two16_gr W0 m; have hA := two16_a W0 m; have hB := two16_b W0 m
  rw [← hW] at hG hA hB
  rw [hs] at hA hB
  unfold two16 at hW
  rw [hW0] at hW
  have HSL := Lib.hid (addL_len l m)
  have S0 : Hid (S3 w 151 w.heap.size l m (List.replicate 16 0) W) := ⟨hG0.trans hG, hC, hA, hB⟩
  have HW := Lib.hid hW; have HL := Lib.hid hl; have HM := Lib.hid hm
  clear hA hB hC hG hW hl hm hG0 hs hW0 W0
  go_enter Tryz.func193, Tryz.ntmps193
  go_upto_region 1 with fail
  rw [← HW.out]
  obtain ⟨h, hh⟩ : ∃ h, h = w.heap.size := ⟨_, rfl⟩
  rw [← hh] at S0 ⊢
  have HH := Lib.hid hh; clear hh
  go_wp2_with fail
  go_loopw [5] (fun i wr => ∃ k : Nat, k ≤ 16 ∧ i = .int .i64 (k : Int) ∧ S3 w 151 h (mixB l (addL l m) k) m (List.replicate 16 0) wr) (fun i _ => 16 - (Go.RowKit.intOf i).toNat)
  case atStart => exact ⟨0, Nat.zero_le _, rfl, by rw [mixB_zero]; exact S0.out⟩
  case round =>
    obtain ⟨k, hk, rfl, s⟩ := hrel
    have S1 := Lib.hid s; clear s
    have p0 : (0 : Int) ≤ k := by omega
    by_cases hlt : k < 16
    · have t0 : decide ((k : Int) < 16) = true := decide_eq_true (by omega)
      have p16 : (k : Int) < 16 := by omega
      have HMX : Hid ((mixB l (addL l m) k).length = 16) := mixB_len HL.out HSL.out (by omega)
      have LD : Hid (∀ wq, Gr wr wq → wq.cell? ⟨h, k, none⟩ = some (.int .u8 (ub (gB l k)))) := fun wq hq => by
        have := By.at (S1.out.mono hq).a (i := k) (by rw [HMX.out]; exact hlt)
        rwa [mixB_at HL.out HSL.out hlt] at this
      have LM : Hid (∀ wq, Gr wr wq → wq.cell? ⟨h + 1, k, none⟩ = some (.int .u8 (ub (gB m k)))) := fun wq hq => By.at (S1.out.mono hq).b (i := k) (by rw [HM.out]; exact hlt)
      have x1 := ub_xor (gB l k) (gB m k)
      have HV : Hid (gB (addL l m) k = gB l k ^^^ gB m k) := gB_range _ _ _ hlt
      go_upto_region 4 with fail
      refine wp_region_grow (by kernel_rfl) [0, 0, 2, 6, 0, 16, 48, 126, 255, 511] [.p 0, .p 1, .p 2, .p 4, .p 5, .q 3, .q 6, .p 7, .p 8, .s 9] (by kernel_rfl) (trivial) ?_
      refine wpG_pe rfl rfl ?_
      apply Exists.intro
      refine ⟨fun wq => ?_, ?_⟩
      · unfold plainAt
        go_simp
        first | exact rfl | exact ⟨rfl, rfl⟩
      go_simp
      refine wpG_pe rfl rfl ?_
      apply Exists.intro
      refine ⟨fun wq => ?_, ?_⟩
      · unfold plainAt
        go_simp
        first | exact rfl | exact ⟨rfl, rfl⟩
      go_simp
      refine wpG_pe rfl rfl ?_
      apply Exists.intro
      refine ⟨fun wq => ?_, ?_⟩
      · unfold plainAt
        go_simp
        first | exact rfl | exact ⟨rfl, rfl⟩
      go_simp
      refine wpG_pe rfl rfl ?_
      apply Exists.intro
      refine ⟨fun wq => ?_, ?_⟩
      · unfold plainAt
        go_simp
        first | exact rfl | exact ⟨rfl, rfl⟩
      go_simp
      refine wpG_pe rfl rfl ?_
      apply Exists.intro
      refine ⟨fun wq => ?_, ?_⟩
      · unfold plainAt
        go_simp
        first | exact rfl | exact ⟨rfl, rfl⟩
      go_simp
      refine wpG_qe rfl rfl ?_
      apply Exists.intro
      refine ⟨fun wq hq => ?_, ?_⟩
      · have c0 := LD.out wq ((Gr.drew _).trans hq)
        unfold plainAt
        go_simp
        first | exact rfl | exact ⟨rfl, rfl⟩
      go_simp
      refine wpG_qe rfl rfl ?_
      apply Exists.intro
      refine ⟨fun wq hq => ?_, ?_⟩
      · have c0 := LM.out wq ((Gr.drew _).trans hq)
        unfold plainAt
        go_simp
        first | exact rfl | exact ⟨rfl, rfl⟩
      go_simp
      refine wpG_pe rfl rfl ?_
      apply Exists.intro
      refine ⟨fun wq => ?_, ?_⟩
      · unfold plainAt
        go_simp
        first | exact rfl | exact ⟨rfl, rfl⟩
      go_simp
      refine wpG_pe rfl rfl ?_
      apply Exists.intro
      refine ⟨fun wq => ?_, ?_⟩
      · unfold plainAt
        go_simp
        first | exact rfl | exact ⟨rfl, rfl⟩
      go_simp
      refine wpG_s rfl rfl ?_
      intro w7 g7 K hK
      have S7 := Lib.hid (S1.out.mono ((Gr.drew _).trans g7))
      have cc := S7.out.a.at (i := k) (by rw [HMX.out]; exact hlt)
      have ff := Blk.free S7.out.a k
      go_simp
      refine hK _ _ ?_
      clear hK
      have S8 := Lib.hid (S7.out.putA (Nat.le_of_eq HH.out.symm) k (gB l k ^^^ gB m k))
      rw [← HV.out, mixB_set HL.out HSL.out hlt] at S8
      rw [← HV.out]
      obtain ⟨W8, hW8⟩ : ∃ W8, W8 = w7.setCell ⟨h, k, none⟩ (.int .u8 (ub (gB (addL l m) k))) := ⟨_, rfl⟩
      rw [← hW8] at S8 ⊢
      clear hW8 S7 g7 cc ff
      refine wpG_nil ?_
      intro w9 g9
      have S9 := Lib.hid (S8.out.mono g9)
      clear g9 S8
      go_wp2_with fail
      go_roundw
      case rel => exact ⟨k + 1, by omega, by go_num, S9.out⟩
      case measure => simp [Go.RowKit.intOf]; omega
    · obtain rfl : k = 16 := by omega
      rw [mixB_all HL.out HSL.out] at S1
      go_wp2_with (first
        | (refine wpList_load_row rfl 151 (.tmp 2) rfl h rfl 151 _ (0, 0) _ S1.out.a Tryz.underlying151 rfl (size16 _ HSL.out) ?_)
        | (refine wpList_store_row rfl 151 (.tmp 4) (.tmp 19) rfl (h + 2) ((addL l m).map u8c).toArray rfl rfl 151 _ S1.out.c (size16 _ HSL.out) (by rw [arr_size, arr_size, HSL.out]; rfl) (arr_one _) ?_))
      exact bodyPost_ret (v := arr (addL l m)) (results_cell_row Tryz.results193 _ _ (h + 2) 151 _ (0, 0) _ rfl S1.out.c.row Tryz.underlying151 rfl (size16 _ HSL.out)) rfl ⟨rfl, byRow_below S1.out.gr (by rw [HH.out]; exact Nat.le_add_right _ _) _⟩
/-! ### Shift -/
/-- The blocks that a function of arrays begins with, and one of its own. -/
def thr16 (w : World) (l : List UInt8) : World := (two16 w l).alloc (.cells #[.int .u8 0, .int .u8 0, .int .u8 0, .int .u8 0, .int .u8 0, .int .u8 0, .int .u8 0, .int .u8 0, .int .u8 0, .int .u8 0, .int .u8 0, .int .u8 0, .int .u8 0, .int .u8 0, .int .u8 0, .int .u8 0] 151)
theorem two16_size (w : World) (l : List UInt8) : (two16 w l).heap.size = w.heap.size + 2 := by unfold two16; simp
theorem thr16_s (w : World) (l : List UInt8) : S3 w 151 w.heap.size l (List.replicate 16 0) (List.replicate 16 0) (thr16 w l) :=
  ⟨(two16_gr w l).trans (Gr.alloc _ _), (Gr.alloc _ _).blk (two16_a w l), (Gr.alloc _ _).blk (two16_b w l), by rw [← two16_size w l]; exact heap_alloc_new (two16 w l) _⟩
set_option maxRecDepth 100000 in
set_option maxHeartbeats 2000000 in
theorem refShift_any (l : List UInt8) (hl : l.length = 16) (w : World) : Calls Tryz.prog 194 #[arr l] w fun e w' => e = .returned (arr (shiftL l)) ∧ Gr w w' := by
  unfold arr
  obtain ⟨W, hW⟩ : ∃ W, W = thr16 w l := ⟨_, rfl⟩
  have hS := thr16_s w l
  rw [← hW] at hS
  unfold thr16 two16 at hW
  have S0 := Lib.hid hS; have HW := Lib.hid hW; have HL := Lib.hid hl
  have HSL := Lib.hid (shiftL_len l)
  clear hS hW hl
  go_enter Tryz.func194, Tryz.ntmps194
  go_upto_region 2 with fail
  rw [← HW.out]
  obtain ⟨h, hh⟩ : ∃ h, h = w.heap.size := ⟨_, rfl⟩
  rw [← hh] at S0 ⊢
  have HH := Lib.hid hh; clear hh
  go_wp2_with fail
  go_loopw [4] (fun i wr => ∃ c : Nat, c ≤ 4 ∧ i = .int .i64 (c : Int) ∧ S3 w 151 h l (List.replicate 16 0) (toK (shiftL l) (4 * c) 16) wr) (fun i _ => 4 - (Go.RowKit.intOf i).toNat)
  case atStart => exact ⟨0, Nat.zero_le _, rfl, S0.out⟩
  case round =>
    obtain ⟨c, hc, rfl, s⟩ := hrel
    have S1 := Lib.hid s; clear s
    have p0 : (0 : Int) ≤ c := by omega
    by_cases hlt : c < 4
    · have t0 : decide ((c : Int) < 4) = true := decide_eq_true (by omega)
      go_wp2_with fail
      go_loopw [5] (fun i wx => ∃ r : Nat, r ≤ 4 ∧ i = .int .i64 (r : Int) ∧ S3 w 151 h l (List.replicate 16 0) (toK (shiftL l) (4 * c + r) 16) wx) (fun i _ => 4 - (Go.RowKit.intOf i).toNat)
      case atStart => exact ⟨0, Nat.zero_le _, rfl, S1.out⟩
      case round =>
        obtain ⟨r, hr, rfl, s⟩ := hrel
        have S2 := Lib.hid s; clear s
        have q0 : (0 : Int) ≤ r := by omega
        by_cases hlt2 : r < 4
        · have t1 : decide ((r : Int) < 4) = true := decide_eq_true (by omega)
          obtain ⟨k, hk⟩ : ∃ k : Nat, k = 4 * c + r := ⟨_, rfl⟩
          obtain ⟨q, hq⟩ : ∃ q : Nat, q = 4 * ((c + r) % 4) + r := ⟨_, rfl⟩
          have HK := Lib.hid hk
          rw [← hk] at S2
          have e1 : 4 * (c : Int) + (r : Int) = (k : Int) := by omega
          have e2 : 4 * (((c : Int) + (r : Int)) % 4) + (r : Int) = (q : Int) := by omega
          have hk16 : k < 16 := by omega
          have hq16 : q < 16 := by omega
          have k1 : (0 : Int) ≤ k := by omega
          have k2 : (k : Int) < 16 := by omega
          have q1 : (0 : Int) ≤ q := by omega
          have q2 : (q : Int) < 16 := by omega
          have z0 : (0 : Int) ≤ (c : Int) + (r : Int) := by omega
          have c1 := S2.out.a.at (i := q) (by rw [HL.out]; exact hq16)
          have cc := S2.out.c.at (i := k) (by rw [toK_len HSL.out (by omega)]; exact hk16)
          have ff := Blk.free S2.out.c k
          have HV : Hid (gB (shiftL l) k = gB l q) := by show _ = _; rw [show gB (shiftL l) k = gB l ((k + 4 * (k % 4)) % 16) from gB_range _ _ _ hk16]; congr 1; omega
          clear hk hq
          go_wp2_with fail
          go_roundw
          case rel =>
            refine ⟨r + 1, by omega, by go_num, ?_⟩
            have S4 := S2.out.putC (Nat.le_of_eq HH.out.symm) k (gB l q)
            rw [← HV.out, toK_set HSL.out hk16] at S4
            rw [show 4 * c + (r + 1) = k + 1 by rw [HK.out]; omega, ← HV.out]
            exact S4
          case measure => simp [Go.RowKit.intOf]; omega
        · obtain rfl : r = 4 := by omega
          go_wp2_with fail
          go_roundw
          case rel => exact ⟨c + 1, by omega, by go_num, by rw [show 4 * (c + 1) = 4 * c + 4 by omega]; exact S2.out⟩
          case measure => simp [Go.RowKit.intOf]; omega
    · obtain rfl : c = 4 := by omega
      rw [show 4 * 4 = 16 from rfl, toK_all HSL.out] at S1
      go_wp2_with (first
        | (refine wpList_load_row rfl 151 (.tmp 3) rfl (h + 2) rfl 151 _ (0, 0) _ S1.out.c Tryz.underlying151 rfl (size16 _ HSL.out) ?_)
        | (refine wpList_store_row rfl 151 (.tmp 2) (.tmp 28) rfl (h + 1) ((shiftL l).map u8c).toArray rfl rfl 151 _ S1.out.b (size16 _ HSL.out) rfl (arr_one _) ?_))
      exact bodyPost_ret (v := arr (shiftL l)) (results_cell_row Tryz.results194 _ _ (h + 1) 151 _ (0, 0) _ rfl S1.out.b.row Tryz.underlying151 rfl (size16 _ HSL.out)) rfl ⟨rfl, byRow_below S1.out.gr (by rw [HH.out]; exact Nat.le_succ _) _⟩
end Go.Proofs.YtcfbbgbjlgonpaaGreatDoor
