/- Own texts of this claim, one behind the other. No condition. -/
import Derived.Test.YtcfbbgbjlgonpaaGreatDoorObPkBG

/- The reference of layer 11: Mix. No condition. -/
namespace Go.Proofs.YtcfbbgbjlgonpaaGreatDoor
open Go.RowKit
set_option linter.unusedVariables false
set_option linter.unusedSimpArgs false
def fourL (l : List UInt8) (c : Nat) : List UInt8 := [gB l (4 * c), gB l (4 * c + 1), gB l (4 * c + 2), gB l (4 * c + 3)]
theorem len16 {l : List UInt8} (h : l.length = 16) : ∃ a0 a1 a2 a3 a4 a5 a6 a7 a8 a9 a10 a11 a12 a13 a14 a15, l = [a0, a1, a2, a3, a4, a5, a6, a7, a8, a9, a10, a11, a12, a13, a14, a15] := by
  match l, h with
  | [a0, a1, a2, a3, a4, a5, a6, a7, a8, a9, a10, a11, a12, a13, a14, a15], _ => exact ⟨a0, a1, a2, a3, a4, a5, a6, a7, a8, a9, a10, a11, a12, a13, a14, a15, rfl⟩
theorem amix_is {l : List UInt8} (h : l.length = 16) : amixL l = colL (fourL l 0) ++ colL (fourL l 1) ++ colL (fourL l 2) ++ colL (fourL l 3) := by
  obtain ⟨a0, a1, a2, a3, a4, a5, a6, a7, a8, a9, a10, a11, a12, a13, a14, a15, rfl⟩ := len16 h
  rfl
theorem gB_app1 (a b : List UInt8) (i : Nat) (h : i < a.length) : gB (a ++ b) i = gB a i := by
  unfold gB
  rw [List.getD_eq_getElem?_getD, List.getElem?_append_left h, List.getD_eq_getElem?_getD]
theorem gB_app2 (a b : List UInt8) (i : Nat) (h : a.length ≤ i) : gB (a ++ b) i = gB b (i - a.length) := by
  unfold gB
  rw [List.getD_eq_getElem?_getD, List.getElem?_append_right h, List.getD_eq_getElem?_getD]
theorem amix_at {l : List UInt8} (h : l.length = 16) {c r : Nat} (hc : c < 4) (hr : r < 4) : gB (amixL l) (4 * c + r) = gB (colL (fourL l c)) r := by
  rw [amix_is h]
  have e0 := colL_len (fourL l 0); have e1 := colL_len (fourL l 1); have e2 := colL_len (fourL l 2); have e3 := colL_len (fourL l 3)
  rcases (by omega : c = 0 ∨ c = 1 ∨ c = 2 ∨ c = 3) with rfl | rfl | rfl | rfl
  · rw [gB_app1 _ _ _ (by simp only [List.length_append]; omega), gB_app1 _ _ _ (by simp only [List.length_append]; omega), gB_app1 _ _ _ (by omega)]
    congr 1; omega
  · rw [gB_app1 _ _ _ (by simp only [List.length_append]; omega), gB_app1 _ _ _ (by simp only [List.length_append]; omega), gB_app2 _ _ _ (by omega)]
    congr 1; omega
  · rw [gB_app1 _ _ _ (by simp only [List.length_append]; omega), gB_app2 _ _ _ (by simp only [List.length_append]; omega)]
    congr 1; simp only [List.length_append]; omega
  · rw [gB_app2 _ _ _ (by simp only [List.length_append]; omega)]
    congr 1; simp only [List.length_append]; omega
theorem S3.far {w W : World} {t : TypeId} {h b : Nat} {A B C : List UInt8} (x : S3 w t h A B C W) (hw : w.heap.size ≤ h) (hb : h + 2 < b) (vs : Array Value) : S3 w t h A B C (W.setRow b vs) :=
  ⟨byRow_below x.gr (by omega) _, (setRow_other W b h _ (by omega)).trans x.a, (setRow_other W b (h + 1) _ (by omega)).trans x.b, (setRow_other W b (h + 2) _ (by omega)).trans x.c⟩
set_option maxRecDepth 100000 in
set_option maxHeartbeats 4000000 in
theorem refMix_any (l : List UInt8) (hl : l.length = 16) (w : World) : Calls Tryz.prog 196 #[arr l] w fun e w' => e = .returned (arr (amixL l)) ∧ Gr w w' := by
  unfold arr
  obtain ⟨W, hW⟩ : ∃ W, W = thr16 w l := ⟨_, rfl⟩
  have hS := thr16_s w l
  rw [← hW] at hS
  unfold thr16 two16 at hW
  have S0 := Lib.hid hS; have HW := Lib.hid hW; have HL := Lib.hid hl
  have HSL := Lib.hid (amixL_len hl)
  clear hS hW hl
  go_enter Tryz.func196, Tryz.ntmps196
  go_upto_region 2 with fail
  rw [← HW.out]
  obtain ⟨h, hh⟩ : ∃ h, h = w.heap.size := ⟨_, rfl⟩
  rw [← hh] at S0 ⊢
  have HH := Lib.hid hh; clear hh
  go_wp2_with fail
  go_loopw [4] (fun i wr => ∃ c : Nat, c ≤ 4 ∧ i = .int .i64 (c : Int) ∧ S3 w 151 h l (List.replicate 16 0) (toK (amixL l) (4 * c) 16) wr) (fun i _ => 4 - (Go.RowKit.intOf i).toNat)
  case atStart => exact ⟨0, Nat.zero_le _, rfl, S0.out⟩
  case round =>
    obtain ⟨c, hc, rfl, s⟩ := hrel
    have S1 := Lib.hid s; clear s
    have p0 : (0 : Int) ≤ c := by omega
    by_cases hlt : c < 4
    · have t0 : decide ((c : Int) < 4) = true := decide_eq_true (by omega)
      have HSZ : Hid (h + 2 < wr.heap.size) := Blk.lt S1.out.c
      have LD : Hid (∀ wq, Gr wr wq → ∀ j, j < 16 → wq.cell? ⟨h, j, none⟩ = some (.int .u8 (ub (gB l j)))) := fun wq hq j hj => By.at (S1.out.mono hq).a (by rw [HL.out]; exact hj)
      go_upto_region 5 with fail
      obtain ⟨d, hd⟩ : ∃ d : Nat, d = 4 * c := ⟨_, rfl⟩
      have w0 : IntKind.i64.wrap (4 * (c : Int)) = (d : Int) := by rw [IntWalk.i64_in _ (by omega)]; omega
      have w1 : IntKind.i64.wrap ((d : Int) + 1) = ((d + 1 : Nat) : Int) := by rw [IntWalk.i64_in _ (by omega)]; omega
      have w2 : IntKind.i64.wrap ((d : Int) + 2) = ((d + 2 : Nat) : Int) := by rw [IntWalk.i64_in _ (by omega)]; omega
      have w3 : IntKind.i64.wrap ((d : Int) + 3) = ((d + 3 : Nat) : Int) := by rw [IntWalk.i64_in _ (by omega)]; omega
      have b0 : d < 16 := by omega
      have b1 : d + 1 < 16 := by omega
      have b2 : d + 2 < 16 := by omega
      have b3 : d + 3 < 16 := by omega
      have n0 : (0 : Int) ≤ d := by omega
      have n1 : (0 : Int) ≤ ((d + 1 : Nat) : Int) := by omega
      have n2 : (0 : Int) ≤ ((d + 2 : Nat) : Int) := by omega
      have n3 : (0 : Int) ≤ ((d + 3 : Nat) : Int) := by omega
      have m0 : (d : Int) < 16 := by omega
      have m1 : ((d + 1 : Nat) : Int) < 16 := by omega
      have m2 : ((d + 2 : Nat) : Int) < 16 := by omega
      have m3 : ((d + 3 : Nat) : Int) < 16 := by omega
      obtain ⟨d1, hd1⟩ : ∃ q, q = d + 1 := ⟨_, rfl⟩
      obtain ⟨d2, hd2⟩ : ∃ q, q = d + 2 := ⟨_, rfl⟩
      obtain ⟨d3, hd3⟩ : ∃ q, q = d + 3 := ⟨_, rfl⟩
      rw [← hd1] at w1 b1 n1 m1
      rw [← hd2] at w2 b2 n2 m2
      rw [← hd3] at w3 b3 n3 m3
      have HF : Hid ([gB l d, gB l d1, gB l d2, gB l d3] = fourL l c) := by show _ = _; rw [hd1, hd2, hd3, hd]; rfl
      have HD := Lib.hid hd
      clear hd hd1 hd2 hd3
      refine wp_region_grow (by kernel_rfl) [0, 1, 3, 7, 0, 16, 48, 112, 240, 0, 512, 1536, 3584, 7680, 0, 16384, 49152, 114688, 245760, 524287, 1048575, 0, 4194303] [.p 0, .p 1, .p 2, .p 4, .p 5, .p 6, .p 7, .p 9, .p 10, .p 11, .p 12, .p 14, .p 15, .p 16, .p 17, .q 3, .q 8, .q 13, .q 18, .p 19, .c 20, .m 21 190 #[.int .u8 0, .int .u8 0, .int .u8 0, .int .u8 0], .s 22] (by kernel_rfl) (⟨fun o ho ρ w => by cases ho; kernel_rfl, trivial⟩) ?_
      refine wpG_pe rfl rfl ?_
      apply Exists.intro
      refine ⟨fun wq => ?_, ?_⟩
      · unfold plainAt
        go_simp
        first | exact rfl | exact ⟨rfl, rfl⟩
      go_simp
      refine wpG_pe rfl rfl ?_
      apply Exists.intro
      refine ⟨fun wq => ?_, ?_⟩
      · unfold plainAt
        go_simp
        first | exact rfl | exact ⟨rfl, rfl⟩
      go_simp
      refine wpG_pe rfl rfl ?_
      apply Exists.intro
      refine ⟨fun wq => ?_, ?_⟩
      · unfold plainAt
        go_simp
        first | exact rfl | exact ⟨rfl, rfl⟩
      go_simp
      refine wpG_pe rfl rfl ?_
      apply Exists.intro
      refine ⟨fun wq => ?_, ?_⟩
      · unfold plainAt
        go_simp
        first | exact rfl | exact ⟨rfl, rfl⟩
      go_simp
      refine wpG_pe rfl rfl ?_
      apply Exists.intro
      refine ⟨fun wq => ?_, ?_⟩
      · unfold plainAt
        go_simp
        first | exact rfl | exact ⟨rfl, rfl⟩
      go_simp
      refine wpG_pe rfl rfl ?_
      apply Exists.intro
      refine ⟨fun wq => ?_, ?_⟩
      · unfold plainAt
        go_simp
        first | exact rfl | exact ⟨rfl, rfl⟩
      go_simp
      refine wpG_pe rfl rfl ?_
      apply Exists.intro
      refine ⟨fun wq => ?_, ?_⟩
      · unfold plainAt
        go_simp
        first | exact rfl | exact ⟨rfl, rfl⟩
      go_simp
      refine wpG_pe rfl rfl ?_
      apply Exists.intro
      refine ⟨fun wq => ?_, ?_⟩
      · unfold plainAt
        go_simp
        first | exact rfl | exact ⟨rfl, rfl⟩
      go_simp
      refine wpG_pe rfl rfl ?_
      apply Exists.intro
      refine ⟨fun wq => ?_, ?_⟩
      · unfold plainAt
        go_simp
        first | exact rfl | exact ⟨rfl, rfl⟩
      go_simp
      refine wpG_pe rfl rfl ?_
      apply Exists.intro
      refine ⟨fun wq => ?_, ?_⟩
      · unfold plainAt
        go_simp
        first | exact rfl | exact ⟨rfl, rfl⟩
      go_simp
      refine wpG_pe rfl rfl ?_
      apply Exists.intro
      refine ⟨fun wq => ?_, ?_⟩
      · unfold plainAt
        go_simp
        first | exact rfl | exact ⟨rfl, rfl⟩
      go_simp
      refine wpG_pe rfl rfl ?_
      apply Exists.intro
      refine ⟨fun wq => ?_, ?_⟩
      · unfold plainAt
        go_simp
        first | exact rfl | exact ⟨rfl, rfl⟩
      go_simp
      refine wpG_pe rfl rfl ?_
      apply Exists.intro
      refine ⟨fun wq => ?_, ?_⟩
      · unfold plainAt
        go_simp
        first | exact rfl | exact ⟨rfl, rfl⟩
      go_simp
      refine wpG_pe rfl rfl ?_
      apply Exists.intro
      refine ⟨fun wq => ?_, ?_⟩
      · unfold plainAt
        go_simp
        first | exact rfl | exact ⟨rfl, rfl⟩
      go_simp
      refine wpG_pe rfl rfl ?_
      apply Exists.intro
      refine ⟨fun wq => ?_, ?_⟩
      · unfold plainAt
        go_simp
        first | exact rfl | exact ⟨rfl, rfl⟩
      go_simp
      refine wpG_qe rfl rfl ?_
      apply Exists.intro
      refine ⟨fun wq hq => ?_, ?_⟩
      · have c0 := LD.out wq ((Gr.drew _).trans hq) d b0
        unfold plainAt
        go_simp
        first | exact rfl | exact ⟨rfl, rfl⟩
      go_simp
      refine wpG_qe rfl rfl ?_
      apply Exists.intro
      refine ⟨fun wq hq => ?_, ?_⟩
      · have c0 := LD.out wq ((Gr.drew _).trans hq) d1 b1
        unfold plainAt
        go_simp
        first | exact rfl | exact ⟨rfl, rfl⟩
      go_simp
      refine wpG_qe rfl rfl ?_
      apply Exists.intro
      refine ⟨fun wq hq => ?_, ?_⟩
      · have c0 := LD.out wq ((Gr.drew _).trans hq) d2 b2
        unfold plainAt
        go_simp
        first | exact rfl | exact ⟨rfl, rfl⟩
      go_simp
      refine wpG_qe rfl rfl ?_
      apply Exists.intro
      refine ⟨fun wq hq => ?_, ?_⟩
      · have c0 := LD.out wq ((Gr.drew _).trans hq) d3 b3
        unfold plainAt
        go_simp
        first | exact rfl | exact ⟨rfl, rfl⟩
      go_simp
      refine wpG_pe rfl rfl ?_
      apply Exists.intro
      refine ⟨fun wq => ?_, ?_⟩
      · unfold plainAt
        go_simp
        first | exact rfl | exact ⟨rfl, rfl⟩
      go_simp
      refine wpG_c rfl rfl ?_
      intro w5 g5 K hK
      go_simp
      go_at_call 210
      refine (refColumn_any [gB l d, gB l d1, gB l d2, gB l d3] rfl w5).mono ?_
      rintro e wn ⟨rfl, g6⟩
      refine hK _ _ g6 ?_; clear hK; have G6 := Lib.hid (((Gr.drew wr).trans g5).trans g6); clear g5 g6; rw [HF.out]; unfold arr
      go_simp
      refine wpG_m rfl rfl ?_
      intro w6 b g7 hbn hblk hI
      have G7 := Lib.hid (G6.out.trans g7)
      have HBK := Lib.hid hblk
      have HBN : Hid (h + 2 < b) := Nat.lt_of_lt_of_le HSZ.out hbn
      clear g7 hblk hI hbn
      go_simp
      refine wpG_s rfl rfl ?_
      intro w7 g8 K hK
      have HB7 : Hid (By w7 b 190 (List.replicate 4 0)) := g8.blk HBK.out
      refine wp_store_row 190 (.tmp 5) (.tmp 31) rfl b ((colL (fourL l c)).map u8c).toArray rfl rfl 190 _ HB7.out (size4 _ (colL_len _)) (by rw [arr_size, arr_size, colL_len]; rfl) (arr_one _) ?_
      refine hK _ _ ?_
      clear hK
      have S8 := Lib.hid ((S1.out.mono (G7.out.trans g8)).far (Nat.le_of_eq HH.out.symm) HBN.out ((colL (fourL l c)).map u8c).toArray)
      have HX8 : Hid (By (w7.setRow b ((colL (fourL l c)).map u8c).toArray) b 190 (colL (fourL l c))) := HB7.out.row
      obtain ⟨W8, hW8⟩ : ∃ W8, W8 = w7.setRow b ((colL (fourL l c)).map u8c).toArray := ⟨_, rfl⟩
      rw [← hW8] at S8 HX8 ⊢
      clear hW8 g8 HB7
      go_simp
      refine wpG_nil ?_
      intro w9 g9
      have S9 := Lib.hid (S8.out.mono g9)
      have HX9 : Hid (By w9 b 190 (colL (fourL l c))) := g9.blk HX8.out
      clear g9 S8 HX8 w0 w1 w2 w3 b0 b1 b2 b3 n0 n1 n2 n3 m0 m1 m2 m3
      go_wp2_with fail
      go_loopw [6] (fun i wx => ∃ r : Nat, r ≤ 4 ∧ i = .int .i64 (r : Int) ∧ S3 w 151 h l (List.replicate 16 0) (toK (amixL l) (4 * c + r) 16) wx ∧ By wx b 190 (colL (fourL l c))) (fun i _ => 4 - (Go.RowKit.intOf i).toNat)
      case atStart => exact ⟨0, Nat.zero_le _, rfl, S9.out, HX9.out⟩
      case round =>
        obtain ⟨r, hr, rfl, s, hx⟩ := hrel
        have S2 := Lib.hid s; have HX2 := Lib.hid hx; clear s
        have q0 : (0 : Int) ≤ r := by omega
        by_cases hlt2 : r < 4
        · have t1 : decide ((r : Int) < 4) = true := decide_eq_true (by omega)
          obtain ⟨k, hk⟩ : ∃ k : Nat, k = 4 * c + r := ⟨_, rfl⟩
          have HK := Lib.hid hk
          rw [← hk] at S2
          have e1 : 4 * (c : Int) + (r : Int) = (k : Int) := by omega
          have hk16 : k < 16 := by omega
          have k1 : (0 : Int) ≤ k := by omega
          have k2 : (k : Int) < 16 := by omega
          have q2 : (r : Int) < 4 := by omega
          have c1 := hx.at (i := r) (by rw [colL_len]; exact hlt2)
          have cc := S2.out.c.at (i := k) (by rw [toK_len HSL.out (by omega)]; exact hk16)
          have ff := Blk.free S2.out.c k
          have HV : Hid (gB (amixL l) k = gB (colL (fourL l c)) r) := by show _ = _; rw [hk]; exact amix_at HL.out hlt hlt2
          clear hk hx
          go_wp2_with fail
          go_roundw
          case rel =>
            have HBN2 := HBN.out
            refine ⟨r + 1, by omega, by go_num, ?_, (Below.heap_setCell _ ⟨h + 2, k, none⟩ _ b (by show b ≠ h + 2; omega)).trans HX2.out⟩
            have S4 := S2.out.putC (Nat.le_of_eq HH.out.symm) k (gB (colL (fourL l c)) r)
            rw [← HV.out, toK_set HSL.out hk16] at S4
            rw [show 4 * c + (r + 1) = k + 1 by rw [HK.out]; omega, ← HV.out]
            exact S4
          case measure => simp [Go.RowKit.intOf]; omega
        · obtain rfl : r = 4 := by omega
          clear hx
          go_wp2_with fail
          go_roundw
          case rel => exact ⟨c + 1, by omega, by go_num, by rw [show 4 * (c + 1) = 4 * c + 4 by omega]; exact S2.out⟩
          case measure => simp [Go.RowKit.intOf]; omega
    · obtain rfl : c = 4 := by omega
      rw [show 4 * 4 = 16 from rfl, toK_all HSL.out] at S1
      go_wp2_with (first
        | (refine wpList_load_row rfl 151 (.tmp 3) rfl (h + 2) rfl 151 _ (0, 0) _ S1.out.c Tryz.underlying151 rfl (size16 _ HSL.out) ?_)
        | (refine wpList_store_row rfl 151 (.tmp 2) (.tmp 44) rfl (h + 1) ((amixL l).map u8c).toArray rfl rfl 151 _ S1.out.b (size16 _ HSL.out) (by rw [arr_size, arr_size, HSL.out]; rfl) (arr_one _) ?_))
      exact bodyPost_ret (v := arr (amixL l)) (results_cell_row Tryz.results196 _ _ (h + 1) 151 _ (0, 0) _ rfl S1.out.b.row Tryz.underlying151 rfl (size16 _ HSL.out)) rfl ⟨rfl, byRow_below S1.out.gr (by rw [HH.out]; exact Nat.le_succ _) _⟩
end Go.Proofs.YtcfbbgbjlgonpaaGreatDoor
