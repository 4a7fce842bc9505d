/- Own texts of this claim, one behind the other. No condition. -/
import Derived.Test.YtcfbbgbjlgonpaaGreatDoorObPkBR

/- An act on a real suite, and on the document's: both tell the same. No condition. -/
namespace Go.Proofs.YtcfbbgbjlgonpaaGreatDoor
open Go.RowKit
set_option linter.unusedVariables false
set_option linter.unusedSimpArgs false
section
variable {g p : Nat} {A0 : Option Addr} {n0 c0 : Nat} {seed : List UInt8} {SA : Option Addr} {sn sc d : Nat}
set_option maxRecDepth 100000 in
set_option maxHeartbeats 2000000 in
theorem do_draw (i j : Int) (x y : BRow) (s : List UInt8) (a b : BRow) (w : World) (re : RealW w g p A0 n0 c0 seed d) (sd : Bs w SA sn sc seed) (ba : a.ok w) (bb : b.ok w) (sk : ShaK w) (hsn : sn ≤ 1000) (hn0 : n0 ≤ 1000) (hd : d < 50) (hqa : a.n ≤ 20000) (hqb : b.n ≤ 20000) :
    Calls Tryz.prog 28 #[.pointer (some ⟨g, 0, none⟩), xv SA sn sc d, xact 0 i j x y s, a.v, b.v] w (RetDo w g p A0 n0 c0 seed SA sn sc d b) := by
  obtain ⟨k, hk⟩ : ∃ k : Int, k = 0 := ⟨_, rfl⟩
  rw [← hk]
  have HKK := Lib.hid hk; clear hk
  have D0 := Lib.hid (dw_s k i j x y s re sd ba bb sk)
  obtain ⟨W, hW⟩ : ∃ W, W = dw w SA sn sc d k i j x y s := ⟨_, rfl⟩
  rw [← hW] at D0
  unfold dw at hW
  have HW := Lib.hid hW
  clear hW re sd ba bb sk
  obtain ⟨xa, xn, xc, xl⟩ := x
  obtain ⟨ya, yn, yc, yl⟩ := y
  obtain ⟨aa, an, ac, al⟩ := a
  obtain ⟨ba', bn, bc, bl⟩ := b
  show Calls _ _ #[.pointer (some ⟨g, 0, none⟩), .agg #[.bool true, .slice SA sn sc, .int .i64 (d : Int), .slice none 0 0, .slice none 0 0], .agg #[.int .i64 k, .int .i64 i, .int .i64 j, .slice xa xn xc, .slice ya yn yc, .string ⟨s.toArray⟩], .slice aa an ac, .slice ba' bn bc] _ _
  simp only at HW hqa hqb
  go_enter Tryz.func28, Tryz.ntmps28
  go_upto_region 1 with fail
  rw [← HW.out]
  obtain ⟨h, hh⟩ : ∃ h, h = w.heap.size := ⟨_, rfl⟩
  rw [← hh] at D0 ⊢
  clear HW
  have HH := Lib.hid hh; clear hh
  have ck : W.cell? ⟨h + 1, 0, none⟩ = some (.int .i64 k) := D0.out.ak.cell 0
  have c5 : W.cell? ⟨h + 1, 5, none⟩ = some (.string ⟨s.toArray⟩) := D0.out.ak.cell 5
  rw [HKK.out] at ck
  go_upto_region 4 with (first
    | (refine wpList_load_row rfl 33 (.tmp 6) rfl h rfl 33 (xs SA sn sc d).toArray (0, 0) _ D0.out.xx Tryz.underlying33 rfl (sizeX _ _ _ _) ?_)
    | (go_at_call 64; refine (xDraw_any SA sn sc d seed W D0.out.sd (by omega) (by omega)).mono ?_; rintro e w1 ⟨A1, n1, c1, rfl, s1, g1, f1⟩; have F1 : Hid (FreshR w A1 n1) := f1.old D0.out.t.size; clear f1; have S1 := Lib.hid s1; have D1 := Lib.hid (D0.out.mono g1); clear s1 g1)
    | (refine wpList_store_row rfl 33 (.tmp 15) (.tmp 36) rfl w1.heap.size (xs SA sn sc (d + 1)).toArray rfl rfl 33 xz.toArray (heap_alloc_new w1 _) (sizeX _ _ _ _) rfl (oneX _ _ _ _) ?_))
  obtain ⟨b15, hb15⟩ : ∃ b15, b15 = w1.heap.size := ⟨_, rfl⟩
  rw [← hb15]
  obtain ⟨W2, hW2⟩ : ∃ W2, W2 = (w1.alloc (.cells #[.bool false, .slice none 0 0, .int .i64 0, .slice none 0 0, .slice none 0 0] 33)).setRow b15 (xs SA sn sc (d + 1)).toArray := ⟨_, rfl⟩
  have hz : Xk (w1.alloc (.cells #[.bool false, .slice none 0 0, .int .i64 0, .slice none 0 0, .slice none 0 0] 33)) b15 xz := by rw [hb15]; exact heap_alloc_new w1 _
  have g12 : Gr w1 W2 := by rw [hW2]; exact byRow_below (Gr.alloc _ _) (Nat.le_of_eq hb15.symm) _
  have HB : Hid (Xk W2 b15 (xs SA sn sc (d + 1))) := by rw [hW2]; exact hz.row _
  have D2 := Lib.hid (D1.out.mono g12)
  have S2 := Lib.hid (Sl.mono S1.out g12)
  have HBP : Hid (b15 ≠ p) := by have h1 : p < w1.heap.size := D1.out.re.src.1.lt; show _ ≠ _; omega
  rw [← hW2]
  clear hW2 hz g12 hb15 S1 D1 ck c5
  refine wp_region_pre (by kernel_rfl) (fun w' => Xk w' b15 (xs SA sn sc (d + 1))) (fun q => q == 3) (fun q => q == 8) [0, 2, 3] 6 (by kernel_rfl) (by kernel_rfl) (by kernel_rfl) ((Gr.drew _).blk HB.out) ?_
  refine wpPre_e rfl rfl ?_
  apply Exists.intro
  refine ⟨fun wq hq => ?_, ?_⟩
  · clear hq
    unfold plainAt
    go_simp
    first | exact rfl | exact ⟨rfl, rfl⟩
  go_simp
  refine wpPre_e rfl rfl ?_
  apply Exists.intro
  refine ⟨fun wq hq => ?_, ?_⟩
  · clear hq
    unfold plainAt
    go_simp
    first | exact rfl | exact ⟨rfl, rfl⟩
  go_simp
  refine wpPre_e rfl rfl ⟨.agg (xs SA sn sc (d + 1)).toArray, fun wq hq => plainRow 33 (.tmp 15) rfl b15 0 rfl _ _ (Xk.whole (hq rfl)) Tryz.underlying33 rfl (sizeXc _ _ _ _), ?_⟩
  go_simp
  refine wpPre_nil ?_
  obtain ⟨w3, hw3⟩ : ∃ w3, w3 = W2.drew := ⟨_, rfl⟩
  have D3 : Hid (DS w g p A0 n0 c0 seed SA sn sc d k i j ⟨xa, xn, xc, xl⟩ ⟨ya, yn, yc, yl⟩ s ⟨aa, an, ac, al⟩ ⟨ba', bn, bc, bl⟩ h d xz w3) := by rw [hw3]; exact D2.out.mono (Gr.drew _)
  have HB3 : Hid (Xk w3 b15 (xs SA sn sc (d + 1))) := by rw [hw3]; exact (Gr.drew _).blk HB.out
  have S3 : Hid (BRow.ok w3 ⟨A1, n1, c1, drawL seed d⟩) := by rw [hw3]; exact Sl.mono S2.out (Gr.drew _)
  rw [← hw3]
  clear hw3 D2 HB S2
  have HDR := Lib.hid (RealW.draw D3.out.re (by omega) (by omega) D3.out.sk)
  refine wpRest_one (i := 1) (by kernel_rfl) rfl rfl ?_
  intro K hK
  go_simp
  go_at_call 22
  refine HDR.out.mono ?_
  rintro e w4 ⟨A4, c4, rfl, s4, g4⟩
  have D4 := Lib.hid (D3.out.turn.mono g4)
  have HB4 : Hid (Xk w4 b15 (xs SA sn sc (d + 1))) := Gr.blk g4 (Blk.far (p := ⟨p, 1, none⟩) HB3.out HBP.out _)
  have HG4 : Hid (BRow.ok w4 ⟨A4, _, c4, drawL seed d⟩) := s4
  have HR4 : Hid (BRow.ok w4 ⟨A1, n1, c1, drawL seed d⟩) := Sl.mono (Bs.setSrc S3.out D3.out.re.src _) g4
  refine hK _ _ (fun _ => HB4.out) ?_
  clear hK s4 g4 HDR S3 HB3 D3
  go_simp
  have HLN : Hid (n1 ≤ bn + 48) := by have h1 : (drawL seed d).length = n1 := Bs.len HR4.out; rw [drawL_len] at h1; show n1 ≤ _; omega
  refine wpRest_one (i := 4) (by kernel_rfl) rfl rfl ?_
  intro K hK
  go_simp
  refine hK _ _ (fun _ => HB4.out) ?_
  clear hK
  go_simp
  refine wpRest_one (i := 5) (by kernel_rfl) rfl rfl ?_
  intro K hK
  go_simp
  refine hK _ _ (fun _ => HB4.out) ?_
  clear hK
  go_simp
  refine wpRest_one (i := 6) (by kernel_rfl) rfl rfl ?_
  intro K hK
  go_simp
  refine hK _ _ (fun _ => HB4.out) ?_
  clear hK
  go_simp
  refine wpRest_one (i := 7) (by kernel_rfl) rfl rfl ?_
  intro K hK
  go_simp
  refine hK _ _ (fun _ => HB4.out) ?_
  clear hK
  go_simp
  refine wpRest_one (i := 8) (by kernel_rfl) rfl rfl ?_
  intro K hK
  refine wp_store_row 33 (.tmp 14) (.tmp 41) rfl (h + 2) (xs SA sn sc (d + 1)).toArray rfl rfl 33 xz.toArray D4.out.r (sizeX _ _ _ _) rfl (oneX _ _ _ _) ?_
  obtain ⟨hx, hg, hr, hre, ht⟩ := D4.out.ended (d + 1) (BRow.mk A4 (drawL seed d).length c4 (drawL seed d)) ⟨A1, n1, c1, drawL seed d⟩ HG4.out HR4.out
  have HX5 := Lib.hid hx; have HG5 := Lib.hid hg; have HR5 := Lib.hid hr; have HE5 := Lib.hid hre; have HT5 := Lib.hid ht
  clear hx hg hr hre ht
  refine hK _ _ (fun q => by cases q) ?_
  clear hK
  go_simp
  refine wpRest_nil (by kernel_rfl) ?_
  go_wp2_with fail
  exact bodyPost_ret (v := .tuple #[(BRow.mk A4 (drawL seed d).length c4 (drawL seed d)).v, .slice A1 n1 c1, .bool true, .bool true, xv SA sn sc (d + 1)]) (results_do Tryz.results28 _ _ (h + 2) SA sn sc (d + 1) rfl HX5.out) rfl ⟨BRow.mk A4 (drawL seed d).length c4 (drawL seed d), BRow.mk A1 n1 c1 (drawL seed d), true, d + 1, rfl, rfl, HG5.out, HR5.out, HLN.out, by omega, HE5.out, HT5.out, by omega, F1.out⟩
set_option maxRecDepth 100000 in
set_option maxHeartbeats 2000000 in
theorem do_seal (i j : Int) (x y : BRow) (s : List UInt8) (a b : BRow) (w : World) (re : RealW w g p A0 n0 c0 seed d) (sd : Bs w SA sn sc seed) (ba : a.ok w) (bb : b.ok w) (sk : ShaK w) (hsn : sn ≤ 1000) (hn0 : n0 ≤ 1000) (hd : d < 50) (hqa : a.n ≤ 20000) (hqb : b.n ≤ 20000) (h32 : a.n = 32) :
    Calls Tryz.prog 28 #[.pointer (some ⟨g, 0, none⟩), xv SA sn sc d, xact 1 i j x y s, a.v, b.v] w (RetDo w g p A0 n0 c0 seed SA sn sc d b) := by
  obtain ⟨k, hk⟩ : ∃ k : Int, k = 1 := ⟨_, rfl⟩
  rw [← hk]
  have HKK := Lib.hid hk; clear hk
  have D0 := Lib.hid (dw_s k i j x y s re sd ba bb sk)
  obtain ⟨W, hW⟩ : ∃ W, W = dw w SA sn sc d k i j x y s := ⟨_, rfl⟩
  rw [← hW] at D0
  unfold dw at hW
  have HW := Lib.hid hW
  clear hW re sd ba bb sk
  obtain ⟨xa, xn, xc, xl⟩ := x
  obtain ⟨ya, yn, yc, yl⟩ := y
  obtain ⟨aa, an, ac, al⟩ := a
  obtain ⟨ba', bn, bc, bl⟩ := b
  show Calls _ _ #[.pointer (some ⟨g, 0, none⟩), .agg #[.bool true, .slice SA sn sc, .int .i64 (d : Int), .slice none 0 0, .slice none 0 0], .agg #[.int .i64 k, .int .i64 i, .int .i64 j, .slice xa xn xc, .slice ya yn yc, .string ⟨s.toArray⟩], .slice aa an ac, .slice ba' bn bc] _ _
  simp only at HW hqa hqb
  go_enter Tryz.func28, Tryz.ntmps28
  go_upto_region 1 with fail
  rw [← HW.out]
  obtain ⟨h, hh⟩ : ∃ h, h = w.heap.size := ⟨_, rfl⟩
  rw [← hh] at D0 ⊢
  clear HW
  have HH := Lib.hid hh; clear hh
  have ck : W.cell? ⟨h + 1, 0, none⟩ = some (.int .i64 k) := D0.out.ak.cell 0
  have c5 : W.cell? ⟨h + 1, 5, none⟩ = some (.string ⟨s.toArray⟩) := D0.out.ak.cell 5
  rw [HKK.out] at ck
  simp only at h32
  subst h32
  go_upto_region 7 with (first
    | (refine wpList_load_row rfl 33 (.tmp 6) rfl h rfl 33 (xs SA sn sc d).toArray (0, 0) _ D0.out.xx Tryz.underlying33 rfl (sizeX _ _ _ _) ?_)
    | (go_at_call 65; refine (xSeal_any SA aa ba' sn sc d ac bn bc seed al bl W D0.out.sd (by omega) (by omega) D0.out.ba D0.out.bb (by omega)).mono ?_; rintro e w1 ⟨A1, n1, c1, rfl, s1, g1, f1⟩; have F1 : Hid (FreshR w A1 n1) := f1.old D0.out.t.size; clear f1; have S1 := Lib.hid s1; have D1 := Lib.hid (D0.out.mono g1); clear s1 g1)
    | (refine wpList_store_row rfl 33 (.tmp 17) (.tmp 49) rfl w1.heap.size (xs SA sn sc (d + 1)).toArray rfl rfl 33 xz.toArray (heap_alloc_new w1 _) (sizeX _ _ _ _) rfl (oneX _ _ _ _) ?_))
  obtain ⟨b15, hb15⟩ : ∃ b15, b15 = w1.heap.size := ⟨_, rfl⟩
  rw [← hb15]
  obtain ⟨W2, hW2⟩ : ∃ W2, W2 = (w1.alloc (.cells #[.bool false, .slice none 0 0, .int .i64 0, .slice none 0 0, .slice none 0 0] 33)).setRow b15 (xs SA sn sc (d + 1)).toArray := ⟨_, rfl⟩
  have hz : Xk (w1.alloc (.cells #[.bool false, .slice none 0 0, .int .i64 0, .slice none 0 0, .slice none 0 0] 33)) b15 xz := by rw [hb15]; exact heap_alloc_new w1 _
  have g12 : Gr w1 W2 := by rw [hW2]; exact byRow_below (Gr.alloc _ _) (Nat.le_of_eq hb15.symm) _
  have HB : Hid (Xk W2 b15 (xs SA sn sc (d + 1))) := by rw [hW2]; exact hz.row _
  have D2 := Lib.hid (D1.out.mono g12)
  have S2 := Lib.hid (Sl.mono S1.out g12)
  have HBP : Hid (b15 ≠ p) := by have h1 : p < w1.heap.size := D1.out.re.src.1.lt; show _ ≠ _; omega
  rw [← hW2]
  clear hW2 hz g12 hb15 S1 D1 ck c5
  refine wp_region_pre (by kernel_rfl) (fun w' => Xk w' b15 (xs SA sn sc (d + 1))) (fun q => q == 5) (fun q => q == 10) [0, 1, 2, 4, 5] 6 (by kernel_rfl) (by kernel_rfl) (by kernel_rfl) ((Gr.drew _).blk HB.out) ?_
  refine wpPre_e rfl rfl ?_
  apply Exists.intro
  refine ⟨fun wq hq => ?_, ?_⟩
  · clear hq
    unfold plainAt
    go_simp
    first | exact rfl | exact ⟨rfl, rfl⟩
  go_simp
  refine wpPre_e rfl rfl ?_
  apply Exists.intro
  refine ⟨fun wq hq => ?_, ?_⟩
  · clear hq
    unfold plainAt
    go_simp
    first | exact rfl | exact ⟨rfl, rfl⟩
  go_simp
  refine wpPre_e rfl rfl ?_
  apply Exists.intro
  refine ⟨fun wq hq => ?_, ?_⟩
  · clear hq
    unfold plainAt
    go_simp
    first | exact rfl | exact ⟨rfl, rfl⟩
  go_simp
  refine wpPre_e rfl rfl ?_
  apply Exists.intro
  refine ⟨fun wq hq => ?_, ?_⟩
  · clear hq
    unfold plainAt
    go_simp
    first | exact rfl | exact ⟨rfl, rfl⟩
  go_simp
  refine wpPre_e rfl rfl ⟨.agg (xs SA sn sc (d + 1)).toArray, fun wq hq => plainRow 33 (.tmp 17) rfl b15 0 rfl _ _ (Xk.whole (hq rfl)) Tryz.underlying33 rfl (sizeXc _ _ _ _), ?_⟩
  go_simp
  refine wpPre_nil ?_
  obtain ⟨w3, hw3⟩ : ∃ w3, w3 = W2.drew := ⟨_, rfl⟩
  have D3 : Hid (DS w g p A0 n0 c0 seed SA sn sc d k i j ⟨xa, xn, xc, xl⟩ ⟨ya, yn, yc, yl⟩ s ⟨aa, 32, ac, al⟩ ⟨ba', bn, bc, bl⟩ h d xz w3) := by rw [hw3]; exact D2.out.mono (Gr.drew _)
  have HB3 : Hid (Xk w3 b15 (xs SA sn sc (d + 1))) := by rw [hw3]; exact (Gr.drew _).blk HB.out
  have S3 : Hid (BRow.ok w3 ⟨A1, n1, c1, boxL al (nonceL seed d) bl⟩) := by rw [hw3]; exact Sl.mono S2.out (Gr.drew _)
  rw [← hw3]
  clear hw3 D2 HB S2
  have HDR := Lib.hid (RealW.seal D3.out.re (by omega) (by omega) al bl D3.out.ba D3.out.bb (show bn ≤ 30000 by omega) D3.out.sk)
  have hbl : bl.length = bn := Bs.len D3.out.bb
  have HBX : Hid ((boxL al (nonceL seed d) bl).length = bn + 48) := by show _ = _; rw [boxL_len (nonceL_len seed d), hbl]
  clear hbl
  refine wpRest_one (i := 3) (by kernel_rfl) rfl rfl ?_
  intro K hK
  go_simp
  go_at_call 18
  refine HDR.out.mono ?_
  rintro e w4 ⟨v4, rfl, o4⟩
  obtain ⟨A4, c4, rfl, s4⟩ := o4.slice
  have g4 := o4.below
  have D4 := Lib.hid (D3.out.turn.mono g4)
  have HB4 : Hid (Xk w4 b15 (xs SA sn sc (d + 1))) := Gr.blk g4 (Blk.far (p := ⟨p, 1, none⟩) HB3.out HBP.out _)
  have HG4 : Hid (BRow.ok w4 ⟨A4, _, c4, boxL al (nonceL seed d) bl⟩) := s4
  have HR4 : Hid (BRow.ok w4 ⟨A1, n1, c1, boxL al (nonceL seed d) bl⟩) := Sl.mono (Bs.setSrc S3.out D3.out.re.src _) g4
  refine hK _ _ (fun _ => HB4.out) ?_
  clear hK s4 g4 o4 HDR S3 HB3 D3
  go_simp
  have HLN : Hid (n1 ≤ bn + 48) := by have h1 : (boxL al (nonceL seed d) bl).length = n1 := Bs.len HR4.out; rw [HBX.out] at h1; show n1 ≤ _; omega
  refine wpRest_one (i := 6) (by kernel_rfl) rfl rfl ?_
  intro K hK
  go_simp
  refine hK _ _ (fun _ => HB4.out) ?_
  clear hK
  go_simp
  refine wpRest_one (i := 7) (by kernel_rfl) rfl rfl ?_
  intro K hK
  go_simp
  refine hK _ _ (fun _ => HB4.out) ?_
  clear hK
  go_simp
  refine wpRest_one (i := 8) (by kernel_rfl) rfl rfl ?_
  intro K hK
  go_simp
  refine hK _ _ (fun _ => HB4.out) ?_
  clear hK
  go_simp
  refine wpRest_one (i := 9) (by kernel_rfl) rfl rfl ?_
  intro K hK
  go_simp
  refine hK _ _ (fun _ => HB4.out) ?_
  clear hK
  go_simp
  refine wpRest_one (i := 10) (by kernel_rfl) rfl rfl ?_
  intro K hK
  refine wp_store_row 33 (.tmp 14) (.tmp 56) rfl (h + 2) (xs SA sn sc (d + 1)).toArray rfl rfl 33 xz.toArray D4.out.r (sizeX _ _ _ _) rfl (oneX _ _ _ _) ?_
  obtain ⟨hx, hg, hr, hre, ht⟩ := D4.out.ended (d + 1) (BRow.mk A4 (bl.length + 48) c4 (boxL al (nonceL seed d) bl)) ⟨A1, n1, c1, boxL al (nonceL seed d) bl⟩ HG4.out HR4.out
  have HX5 := Lib.hid hx; have HG5 := Lib.hid hg; have HR5 := Lib.hid hr; have HE5 := Lib.hid hre; have HT5 := Lib.hid ht
  clear hx hg hr hre ht
  refine hK _ _ (fun q => by cases q) ?_
  clear hK
  go_simp
  refine wpRest_nil (by kernel_rfl) ?_
  go_wp2_with fail
  exact bodyPost_ret (v := .tuple #[(BRow.mk A4 (bl.length + 48) c4 (boxL al (nonceL seed d) bl)).v, .slice A1 n1 c1, .bool true, .bool true, xv SA sn sc (d + 1)]) (results_do Tryz.results28 _ _ (h + 2) SA sn sc (d + 1) rfl HX5.out) rfl ⟨BRow.mk A4 (bl.length + 48) c4 (boxL al (nonceL seed d) bl), BRow.mk A1 n1 c1 (boxL al (nonceL seed d) bl), true, d + 1, rfl, rfl, HG5.out, HR5.out, HLN.out, by omega, HE5.out, HT5.out, by omega, F1.out⟩
set_option maxRecDepth 100000 in
set_option maxHeartbeats 2000000 in
theorem do_seal_not (i j : Int) (x y : BRow) (s : List UInt8) (a b : BRow) (w : World) (re : RealW w g p A0 n0 c0 seed d) (sd : Bs w SA sn sc seed) (ba : a.ok w) (bb : b.ok w) (sk : ShaK w) (hsn : sn ≤ 1000) (hn0 : n0 ≤ 1000) (hd : d < 50) (hqa : a.n ≤ 20000) (hqb : b.n ≤ 20000) (h32 : a.n ≠ 32) :
    Calls Tryz.prog 28 #[.pointer (some ⟨g, 0, none⟩), xv SA sn sc d, xact 1 i j x y s, a.v, b.v] w (RetDo w g p A0 n0 c0 seed SA sn sc d b) := by
  obtain ⟨k, hk⟩ : ∃ k : Int, k = 1 := ⟨_, rfl⟩
  rw [← hk]
  have HKK := Lib.hid hk; clear hk
  have D0 := Lib.hid (dw_s k i j x y s re sd ba bb sk)
  obtain ⟨W, hW⟩ : ∃ W, W = dw w SA sn sc d k i j x y s := ⟨_, rfl⟩
  rw [← hW] at D0
  unfold dw at hW
  have HW := Lib.hid hW
  clear hW re sd ba bb sk
  obtain ⟨xa, xn, xc, xl⟩ := x
  obtain ⟨ya, yn, yc, yl⟩ := y
  obtain ⟨aa, an, ac, al⟩ := a
  obtain ⟨ba', bn, bc, bl⟩ := b
  show Calls _ _ #[.pointer (some ⟨g, 0, none⟩), .agg #[.bool true, .slice SA sn sc, .int .i64 (d : Int), .slice none 0 0, .slice none 0 0], .agg #[.int .i64 k, .int .i64 i, .int .i64 j, .slice xa xn xc, .slice ya yn yc, .string ⟨s.toArray⟩], .slice aa an ac, .slice ba' bn bc] _ _
  simp only at HW hqa hqb
  go_enter Tryz.func28, Tryz.ntmps28
  go_upto_region 1 with fail
  rw [← HW.out]
  obtain ⟨h, hh⟩ : ∃ h, h = w.heap.size := ⟨_, rfl⟩
  rw [← hh] at D0 ⊢
  clear HW
  have HH := Lib.hid hh; clear hh
  have ck : W.cell? ⟨h + 1, 0, none⟩ = some (.int .i64 k) := D0.out.ak.cell 0
  have c5 : W.cell? ⟨h + 1, 5, none⟩ = some (.string ⟨s.toArray⟩) := D0.out.ak.cell 5
  rw [HKK.out] at ck
  simp only at h32
  have q1 : an ≤ ac := Sl.cap D0.out.ba
  have q2 : ac ≤ 9223372036854775807 := Sl.max D0.out.ba
  go_upto_region 7 with (first
    | (refine wpList_load_row rfl 33 (.tmp 6) rfl h rfl 33 (xs SA sn sc d).toArray (0, 0) _ D0.out.xx Tryz.underlying33 rfl (sizeX _ _ _ _) ?_)
    | (go_at_call 65; refine (xSeal_not SA aa ba' sn sc d an ac bn bc W h32 q1 q2).mono ?_; rintro e w1 ⟨A1, n1, c1, rfl, s1, g1, f1⟩; have F1 : Hid (FreshR w A1 n1) := f1.old D0.out.t.size; clear f1; have S1 := Lib.hid s1; have D1 := Lib.hid (D0.out.mono g1); clear s1 g1)
    | (refine wpList_store_row rfl 33 (.tmp 17) (.tmp 49) rfl w1.heap.size (xs SA sn sc (d)).toArray rfl rfl 33 xz.toArray (heap_alloc_new w1 _) (sizeX _ _ _ _) rfl (oneX _ _ _ _) ?_))
  obtain ⟨b15, hb15⟩ : ∃ b15, b15 = w1.heap.size := ⟨_, rfl⟩
  rw [← hb15]
  obtain ⟨W2, hW2⟩ : ∃ W2, W2 = (w1.alloc (.cells #[.bool false, .slice none 0 0, .int .i64 0, .slice none 0 0, .slice none 0 0] 33)).setRow b15 (xs SA sn sc (d)).toArray := ⟨_, rfl⟩
  have hz : Xk (w1.alloc (.cells #[.bool false, .slice none 0 0, .int .i64 0, .slice none 0 0, .slice none 0 0] 33)) b15 xz := by rw [hb15]; exact heap_alloc_new w1 _
  have g12 : Gr w1 W2 := by rw [hW2]; exact byRow_below (Gr.alloc _ _) (Nat.le_of_eq hb15.symm) _
  have HB : Hid (Xk W2 b15 (xs SA sn sc (d))) := by rw [hW2]; exact hz.row _
  have D2 := Lib.hid (D1.out.mono g12)
  have S2 := Lib.hid (Sl.mono S1.out g12)
  have HBP : Hid (b15 ≠ p) := by have h1 : p < w1.heap.size := D1.out.re.src.1.lt; show _ ≠ _; omega
  rw [← hW2]
  clear hW2 hz g12 hb15 S1 D1 ck c5
  refine wp_region_pre (by kernel_rfl) (fun w' => Xk w' b15 (xs SA sn sc d)) (fun q => q == 5) (fun q => q == 10) [0, 1, 2, 4, 5] 6 (by kernel_rfl) (by kernel_rfl) (by kernel_rfl) ((Gr.drew _).blk HB.out) ?_
  refine wpPre_e rfl rfl ?_
  apply Exists.intro
  refine ⟨fun wq hq => ?_, ?_⟩
  · clear hq
    unfold plainAt
    go_simp
    first | exact rfl | exact ⟨rfl, rfl⟩
  go_simp
  refine wpPre_e rfl rfl ?_
  apply Exists.intro
  refine ⟨fun wq hq => ?_, ?_⟩
  · clear hq
    unfold plainAt
    go_simp
    first | exact rfl | exact ⟨rfl, rfl⟩
  go_simp
  refine wpPre_e rfl rfl ?_
  apply Exists.intro
  refine ⟨fun wq hq => ?_, ?_⟩
  · clear hq
    unfold plainAt
    go_simp
    first | exact rfl | exact ⟨rfl, rfl⟩
  go_simp
  refine wpPre_e rfl rfl ?_
  apply Exists.intro
  refine ⟨fun wq hq => ?_, ?_⟩
  · clear hq
    unfold plainAt
    go_simp
    first | exact rfl | exact ⟨rfl, rfl⟩
  go_simp
  refine wpPre_e rfl rfl ⟨.agg (xs SA sn sc (d)).toArray, fun wq hq => plainRow 33 (.tmp 17) rfl b15 0 rfl _ _ (Xk.whole (hq rfl)) Tryz.underlying33 rfl (sizeXc _ _ _ _), ?_⟩
  go_simp
  refine wpPre_nil ?_
  obtain ⟨w3, hw3⟩ : ∃ w3, w3 = W2.drew := ⟨_, rfl⟩
  have D3 : Hid (DS w g p A0 n0 c0 seed SA sn sc d k i j ⟨xa, xn, xc, xl⟩ ⟨ya, yn, yc, yl⟩ s ⟨aa, an, ac, al⟩ ⟨ba', bn, bc, bl⟩ h d xz w3) := by rw [hw3]; exact D2.out.mono (Gr.drew _)
  have HB3 : Hid (Xk w3 b15 (xs SA sn sc (d))) := by rw [hw3]; exact (Gr.drew _).blk HB.out
  have S3 : Hid (BRow.ok w3 ⟨A1, n1, c1, []⟩) := by rw [hw3]; exact Sl.mono S2.out (Gr.drew _)
  rw [← hw3]
  clear hw3 D2 HB S2
  have HDR := Lib.hid (realSeal_not g aa ba' an ac bn bc w3 D3.out.re.real h32 q1 q2)
  refine wpRest_one (i := 3) (by kernel_rfl) rfl rfl ?_
  intro K hK
  go_simp
  go_at_call 18
  refine HDR.out.mono ?_
  rintro e w4 ⟨rfl, h4⟩
  rw [← h4]
  clear h4 w4
  have D4 := D3
  have HB4 := HB3
  have HG4 : Hid (BRow.ok w3 ⟨none, 0, 0, []⟩) := Sl.nil _ _
  have HR4 := S3
  refine hK _ _ (fun _ => HB4.out) ?_
  clear hK HDR
  go_simp
  have HLN : Hid (n1 ≤ bn + 48) := by have h1 : ([] : List UInt8).length = n1 := Bs.len HR4.out; show n1 ≤ _; simp at h1; omega
  refine wpRest_one (i := 6) (by kernel_rfl) rfl rfl ?_
  intro K hK
  go_simp
  refine hK _ _ (fun _ => HB4.out) ?_
  clear hK
  go_simp
  refine wpRest_one (i := 7) (by kernel_rfl) rfl rfl ?_
  intro K hK
  go_simp
  refine hK _ _ (fun _ => HB4.out) ?_
  clear hK
  go_simp
  refine wpRest_one (i := 8) (by kernel_rfl) rfl rfl ?_
  intro K hK
  go_simp
  refine hK _ _ (fun _ => HB4.out) ?_
  clear hK
  go_simp
  refine wpRest_one (i := 9) (by kernel_rfl) rfl rfl ?_
  intro K hK
  go_simp
  refine hK _ _ (fun _ => HB4.out) ?_
  clear hK
  go_simp
  refine wpRest_one (i := 10) (by kernel_rfl) rfl rfl ?_
  intro K hK
  refine wp_store_row 33 (.tmp 14) (.tmp 56) rfl (h + 2) (xs SA sn sc (d)).toArray rfl rfl 33 xz.toArray D4.out.r (sizeX _ _ _ _) rfl (oneX _ _ _ _) ?_
  obtain ⟨hx, hg, hr, hre, ht⟩ := D4.out.ended (d) (BRow.mk none 0 0 []) ⟨A1, n1, c1, []⟩ HG4.out HR4.out
  have HX5 := Lib.hid hx; have HG5 := Lib.hid hg; have HR5 := Lib.hid hr; have HE5 := Lib.hid hre; have HT5 := Lib.hid ht
  clear hx hg hr hre ht
  refine hK _ _ (fun q => by cases q) ?_
  clear hK
  go_simp
  refine wpRest_nil (by kernel_rfl) ?_
  go_wp2_with fail
  exact bodyPost_ret (v := .tuple #[(BRow.mk none 0 0 []).v, .slice A1 n1 c1, .bool true, .bool true, xv SA sn sc (d)]) (results_do Tryz.results28 _ _ (h + 2) SA sn sc (d) rfl HX5.out) rfl ⟨BRow.mk none 0 0 [], BRow.mk A1 n1 c1 ([]), true, d, rfl, rfl, HG5.out, HR5.out, HLN.out, by omega, HE5.out, HT5.out, by omega, F1.out⟩
set_option maxRecDepth 100000 in
set_option maxHeartbeats 2000000 in
theorem do_mix (i j : Int) (x y : BRow) (s : List UInt8) (a b : BRow) (w : World) (re : RealW w g p A0 n0 c0 seed d) (sd : Bs w SA sn sc seed) (ba : a.ok w) (bb : b.ok w) (sk : ShaK w) (hsn : sn ≤ 1000) (hn0 : n0 ≤ 1000) (hd : d < 50) (hqa : a.n ≤ 20000) (hqb : b.n ≤ 20000) :
    Calls Tryz.prog 28 #[.pointer (some ⟨g, 0, none⟩), xv SA sn sc d, xact 4 i j x y s, a.v, b.v] w (RetDo w g p A0 n0 c0 seed SA sn sc d b) := by
  obtain ⟨k, hk⟩ : ∃ k : Int, k = 4 := ⟨_, rfl⟩
  rw [← hk]
  have HKK := Lib.hid hk; clear hk
  have D0 := Lib.hid (dw_s k i j x y s re sd ba bb sk)
  obtain ⟨W, hW⟩ : ∃ W, W = dw w SA sn sc d k i j x y s := ⟨_, rfl⟩
  rw [← hW] at D0
  unfold dw at hW
  have HW := Lib.hid hW
  clear hW re sd ba bb sk
  obtain ⟨xa, xn, xc, xl⟩ := x
  obtain ⟨ya, yn, yc, yl⟩ := y
  obtain ⟨aa, an, ac, al⟩ := a
  obtain ⟨ba', bn, bc, bl⟩ := b
  show Calls _ _ #[.pointer (some ⟨g, 0, none⟩), .agg #[.bool true, .slice SA sn sc, .int .i64 (d : Int), .slice none 0 0, .slice none 0 0], .agg #[.int .i64 k, .int .i64 i, .int .i64 j, .slice xa xn xc, .slice ya yn yc, .string ⟨s.toArray⟩], .slice aa an ac, .slice ba' bn bc] _ _
  simp only at HW hqa hqb
  go_enter Tryz.func28, Tryz.ntmps28
  go_upto_region 1 with fail
  rw [← HW.out]
  obtain ⟨h, hh⟩ : ∃ h, h = w.heap.size := ⟨_, rfl⟩
  rw [← hh] at D0 ⊢
  clear HW
  have HH := Lib.hid hh; clear hh
  have ck : W.cell? ⟨h + 1, 0, none⟩ = some (.int .i64 k) := D0.out.ak.cell 0
  have c5 : W.cell? ⟨h + 1, 5, none⟩ = some (.string ⟨s.toArray⟩) := D0.out.ak.cell 5
  rw [HKK.out] at ck
  go_upto_region 17 with (first
    | (refine wpList_load_row rfl 33 (.tmp 6) rfl h rfl 33 (xs SA sn sc d).toArray (0, 0) _ D0.out.xx Tryz.underlying33 rfl (sizeX _ _ _ _) ?_)
    | (go_at_call 68; refine (xMix_any SA aa ba' sn sc d an ac bn bc al bl W D0.out.ba (by omega) D0.out.bb (by omega)).mono ?_; rintro e w1 ⟨A1, n1, c1, rfl, s1, g1, f1⟩; have F1 : Hid (FreshR w A1 n1) := f1.old D0.out.t.size; clear f1; have S1 := Lib.hid s1; have D1 := Lib.hid (D0.out.mono g1); clear s1 g1)
    | (refine wpList_store_row rfl 33 (.tmp 25) (.tmp 102) rfl w1.heap.size (xs SA sn sc (d)).toArray rfl rfl 33 xz.toArray (heap_alloc_new w1 _) (sizeX _ _ _ _) rfl (oneX _ _ _ _) ?_))
  obtain ⟨b15, hb15⟩ : ∃ b15, b15 = w1.heap.size := ⟨_, rfl⟩
  rw [← hb15]
  obtain ⟨W2, hW2⟩ : ∃ W2, W2 = (w1.alloc (.cells #[.bool false, .slice none 0 0, .int .i64 0, .slice none 0 0, .slice none 0 0] 33)).setRow b15 (xs SA sn sc (d)).toArray := ⟨_, rfl⟩
  have hz : Xk (w1.alloc (.cells #[.bool false, .slice none 0 0, .int .i64 0, .slice none 0 0, .slice none 0 0] 33)) b15 xz := by rw [hb15]; exact heap_alloc_new w1 _
  have g12 : Gr w1 W2 := by rw [hW2]; exact byRow_below (Gr.alloc _ _) (Nat.le_of_eq hb15.symm) _
  have HB : Hid (Xk W2 b15 (xs SA sn sc (d))) := by rw [hW2]; exact hz.row _
  have D2 := Lib.hid (D1.out.mono g12)
  have S2 := Lib.hid (Sl.mono S1.out g12)
  have HBP : Hid (b15 ≠ p) := by have h1 : p < w1.heap.size := D1.out.re.src.1.lt; show _ ≠ _; omega
  rw [← hW2]
  clear hW2 hz g12 hb15 S1 D1 ck c5
  refine wp_region_pre (by kernel_rfl) (fun w' => Xk w' b15 (xs SA sn sc d)) (fun q => q == 5) (fun q => q == 10) [0, 1, 2, 4, 5] 6 (by kernel_rfl) (by kernel_rfl) (by kernel_rfl) ((Gr.drew _).blk HB.out) ?_
  refine wpPre_e rfl rfl ?_
  apply Exists.intro
  refine ⟨fun wq hq => ?_, ?_⟩
  · clear hq
    unfold plainAt
    go_simp
    first | exact rfl | exact ⟨rfl, rfl⟩
  go_simp
  refine wpPre_e rfl rfl ?_
  apply Exists.intro
  refine ⟨fun wq hq => ?_, ?_⟩
  · clear hq
    unfold plainAt
    go_simp
    first | exact rfl | exact ⟨rfl, rfl⟩
  go_simp
  refine wpPre_e rfl rfl ?_
  apply Exists.intro
  refine ⟨fun wq hq => ?_, ?_⟩
  · clear hq
    unfold plainAt
    go_simp
    first | exact rfl | exact ⟨rfl, rfl⟩
  go_simp
  refine wpPre_e rfl rfl ?_
  apply Exists.intro
  refine ⟨fun wq hq => ?_, ?_⟩
  · clear hq
    unfold plainAt
    go_simp
    first | exact rfl | exact ⟨rfl, rfl⟩
  go_simp
  refine wpPre_e rfl rfl ⟨.agg (xs SA sn sc (d)).toArray, fun wq hq => plainRow 33 (.tmp 25) rfl b15 0 rfl _ _ (Xk.whole (hq rfl)) Tryz.underlying33 rfl (sizeXc _ _ _ _), ?_⟩
  go_simp
  refine wpPre_nil ?_
  obtain ⟨w3, hw3⟩ : ∃ w3, w3 = W2.drew := ⟨_, rfl⟩
  have D3 : Hid (DS w g p A0 n0 c0 seed SA sn sc d k i j ⟨xa, xn, xc, xl⟩ ⟨ya, yn, yc, yl⟩ s ⟨aa, an, ac, al⟩ ⟨ba', bn, bc, bl⟩ h d xz w3) := by rw [hw3]; exact D2.out.mono (Gr.drew _)
  have HB3 : Hid (Xk w3 b15 (xs SA sn sc (d))) := by rw [hw3]; exact (Gr.drew _).blk HB.out
  have S3 : Hid (BRow.ok w3 ⟨A1, n1, c1, macL al bl⟩) := by rw [hw3]; exact Sl.mono S2.out (Gr.drew _)
  rw [← hw3]
  clear hw3 D2 HB S2
  have HDR := Lib.hid (realMix_any g aa ba' an ac bn bc al bl w3 D3.out.re.real D3.out.ba (by omega) D3.out.bb (by omega) D3.out.sk)
  refine wpRest_one (i := 3) (by kernel_rfl) rfl rfl ?_
  intro K hK
  go_simp
  go_at_call 24
  refine HDR.out.mono ?_
  rintro e w4 ⟨v4, rfl, o4⟩
  obtain ⟨A4, c4, rfl, s4⟩ := o4.slice
  have g4 := o4.below
  have D4 := Lib.hid (D3.out.mono g4)
  have HB4 : Hid (Xk w4 b15 (xs SA sn sc d)) := Gr.blk g4 HB3.out
  have HG4 : Hid (BRow.ok w4 ⟨A4, _, c4, macL al bl⟩) := s4
  have HR4 : Hid (BRow.ok w4 ⟨A1, n1, c1, macL al bl⟩) := Sl.mono S3.out g4
  refine hK _ _ (fun _ => HB4.out) ?_
  clear hK s4 g4 o4 HDR S3 HB3 D3
  go_simp
  have HLN : Hid (n1 ≤ bn + 48) := by have h1 : (macL al bl).length = n1 := Bs.len HR4.out; rw [macL_len] at h1; show n1 ≤ _; omega
  refine wpRest_one (i := 6) (by kernel_rfl) rfl rfl ?_
  intro K hK
  go_simp
  refine hK _ _ (fun _ => HB4.out) ?_
  clear hK
  go_simp
  refine wpRest_one (i := 7) (by kernel_rfl) rfl rfl ?_
  intro K hK
  go_simp
  refine hK _ _ (fun _ => HB4.out) ?_
  clear hK
  go_simp
  refine wpRest_one (i := 8) (by kernel_rfl) rfl rfl ?_
  intro K hK
  go_simp
  refine hK _ _ (fun _ => HB4.out) ?_
  clear hK
  go_simp
  refine wpRest_one (i := 9) (by kernel_rfl) rfl rfl ?_
  intro K hK
  go_simp
  refine hK _ _ (fun _ => HB4.out) ?_
  clear hK
  go_simp
  refine wpRest_one (i := 10) (by kernel_rfl) rfl rfl ?_
  intro K hK
  refine wp_store_row 33 (.tmp 14) (.tmp 109) rfl (h + 2) (xs SA sn sc (d)).toArray rfl rfl 33 xz.toArray D4.out.r (sizeX _ _ _ _) rfl (oneX _ _ _ _) ?_
  obtain ⟨hx, hg, hr, hre, ht⟩ := D4.out.ended (d) (BRow.mk A4 (macL al bl).length c4 (macL al bl)) ⟨A1, n1, c1, macL al bl⟩ HG4.out HR4.out
  have HX5 := Lib.hid hx; have HG5 := Lib.hid hg; have HR5 := Lib.hid hr; have HE5 := Lib.hid hre; have HT5 := Lib.hid ht
  clear hx hg hr hre ht
  refine hK _ _ (fun q => by cases q) ?_
  clear hK
  go_simp
  refine wpRest_nil (by kernel_rfl) ?_
  go_wp2_with fail
  exact bodyPost_ret (v := .tuple #[(BRow.mk A4 (macL al bl).length c4 (macL al bl)).v, .slice A1 n1 c1, .bool true, .bool true, xv SA sn sc (d)]) (results_do Tryz.results28 _ _ (h + 2) SA sn sc (d) rfl HX5.out) rfl ⟨BRow.mk A4 (macL al bl).length c4 (macL al bl), BRow.mk A1 n1 c1 (macL al bl), true, d, rfl, rfl, HG5.out, HR5.out, HLN.out, by omega, HE5.out, HT5.out, by omega, F1.out⟩
set_option maxRecDepth 100000 in
set_option maxHeartbeats 2000000 in
theorem do_sum (i j : Int) (x y : BRow) (s : List UInt8) (a b : BRow) (w : World) (re : RealW w g p A0 n0 c0 seed d) (sd : Bs w SA sn sc seed) (ba : a.ok w) (bb : b.ok w) (sk : ShaK w) (hsn : sn ≤ 1000) (hn0 : n0 ≤ 1000) (hd : d < 50) (hqa : a.n ≤ 20000) (hqb : b.n ≤ 20000) :
    Calls Tryz.prog 28 #[.pointer (some ⟨g, 0, none⟩), xv SA sn sc d, xact 5 i j x y s, a.v, b.v] w (RetDo w g p A0 n0 c0 seed SA sn sc d b) := by
  obtain ⟨k, hk⟩ : ∃ k : Int, k = 5 := ⟨_, rfl⟩
  rw [← hk]
  have HKK := Lib.hid hk; clear hk
  have D0 := Lib.hid (dw_s k i j x y s re sd ba bb sk)
  obtain ⟨W, hW⟩ : ∃ W, W = dw w SA sn sc d k i j x y s := ⟨_, rfl⟩
  rw [← hW] at D0
  unfold dw at hW
  have HW := Lib.hid hW
  clear hW re sd ba bb sk
  obtain ⟨xa, xn, xc, xl⟩ := x
  obtain ⟨ya, yn, yc, yl⟩ := y
  obtain ⟨aa, an, ac, al⟩ := a
  obtain ⟨ba', bn, bc, bl⟩ := b
  show Calls _ _ #[.pointer (some ⟨g, 0, none⟩), .agg #[.bool true, .slice SA sn sc, .int .i64 (d : Int), .slice none 0 0, .slice none 0 0], .agg #[.int .i64 k, .int .i64 i, .int .i64 j, .slice xa xn xc, .slice ya yn yc, .string ⟨s.toArray⟩], .slice aa an ac, .slice ba' bn bc] _ _
  simp only at HW hqa hqb
  go_enter Tryz.func28, Tryz.ntmps28
  go_upto_region 1 with fail
  rw [← HW.out]
  obtain ⟨h, hh⟩ : ∃ h, h = w.heap.size := ⟨_, rfl⟩
  rw [← hh] at D0 ⊢
  clear HW
  have HH := Lib.hid hh; clear hh
  have ck : W.cell? ⟨h + 1, 0, none⟩ = some (.int .i64 k) := D0.out.ak.cell 0
  have c5 : W.cell? ⟨h + 1, 5, none⟩ = some (.string ⟨s.toArray⟩) := D0.out.ak.cell 5
  rw [HKK.out] at ck
  go_upto_region 20 with (first
    | (refine wpList_load_row rfl 33 (.tmp 6) rfl h rfl 33 (xs SA sn sc d).toArray (0, 0) _ D0.out.xx Tryz.underlying33 rfl (sizeX _ _ _ _) ?_)
    | (go_at_call 69; refine (xSum_any SA aa sn sc d an ac al W D0.out.ba).mono ?_; rintro e w1 ⟨A1, n1, c1, rfl, s1, g1, f1⟩; have F1 : Hid (FreshR w A1 n1) := f1.old D0.out.t.size; clear f1; have S1 := Lib.hid s1; have D1 := Lib.hid (D0.out.mono g1); clear s1 g1)
    | (refine wpList_store_row rfl 33 (.tmp 27) (.tmp 116) rfl w1.heap.size (xs SA sn sc (d)).toArray rfl rfl 33 xz.toArray (heap_alloc_new w1 _) (sizeX _ _ _ _) rfl (oneX _ _ _ _) ?_))
  obtain ⟨b15, hb15⟩ : ∃ b15, b15 = w1.heap.size := ⟨_, rfl⟩
  rw [← hb15]
  obtain ⟨W2, hW2⟩ : ∃ W2, W2 = (w1.alloc (.cells #[.bool false, .slice none 0 0, .int .i64 0, .slice none 0 0, .slice none 0 0] 33)).setRow b15 (xs SA sn sc (d)).toArray := ⟨_, rfl⟩
  have hz : Xk (w1.alloc (.cells #[.bool false, .slice none 0 0, .int .i64 0, .slice none 0 0, .slice none 0 0] 33)) b15 xz := by rw [hb15]; exact heap_alloc_new w1 _
  have g12 : Gr w1 W2 := by rw [hW2]; exact byRow_below (Gr.alloc _ _) (Nat.le_of_eq hb15.symm) _
  have HB : Hid (Xk W2 b15 (xs SA sn sc (d))) := by rw [hW2]; exact hz.row _
  have D2 := Lib.hid (D1.out.mono g12)
  have S2 := Lib.hid (Sl.mono S1.out g12)
  have HBP : Hid (b15 ≠ p) := by have h1 : p < w1.heap.size := D1.out.re.src.1.lt; show _ ≠ _; omega
  rw [← hW2]
  clear hW2 hz g12 hb15 S1 D1 ck c5
  refine wp_region_pre (by kernel_rfl) (fun w' => Xk w' b15 (xs SA sn sc d)) (fun q => q == 4) (fun q => q == 9) [0, 1, 3, 4] 6 (by kernel_rfl) (by kernel_rfl) (by kernel_rfl) ((Gr.drew _).blk HB.out) ?_
  refine wpPre_e rfl rfl ?_
  apply Exists.intro
  refine ⟨fun wq hq => ?_, ?_⟩
  · clear hq
    unfold plainAt
    go_simp
    first | exact rfl | exact ⟨rfl, rfl⟩
  go_simp
  refine wpPre_e rfl rfl ?_
  apply Exists.intro
  refine ⟨fun wq hq => ?_, ?_⟩
  · clear hq
    unfold plainAt
    go_simp
    first | exact rfl | exact ⟨rfl, rfl⟩
  go_simp
  refine wpPre_e rfl rfl ?_
  apply Exists.intro
  refine ⟨fun wq hq => ?_, ?_⟩
  · clear hq
    unfold plainAt
    go_simp
    first | exact rfl | exact ⟨rfl, rfl⟩
  go_simp
  refine wpPre_e rfl rfl ⟨.agg (xs SA sn sc (d)).toArray, fun wq hq => plainRow 33 (.tmp 27) rfl b15 0 rfl _ _ (Xk.whole (hq rfl)) Tryz.underlying33 rfl (sizeXc _ _ _ _), ?_⟩
  go_simp
  refine wpPre_nil ?_
  obtain ⟨w3, hw3⟩ : ∃ w3, w3 = W2.drew := ⟨_, rfl⟩
  have D3 : Hid (DS w g p A0 n0 c0 seed SA sn sc d k i j ⟨xa, xn, xc, xl⟩ ⟨ya, yn, yc, yl⟩ s ⟨aa, an, ac, al⟩ ⟨ba', bn, bc, bl⟩ h d xz w3) := by rw [hw3]; exact D2.out.mono (Gr.drew _)
  have HB3 : Hid (Xk w3 b15 (xs SA sn sc (d))) := by rw [hw3]; exact (Gr.drew _).blk HB.out
  have S3 : Hid (BRow.ok w3 ⟨A1, n1, c1, crcL al⟩) := by rw [hw3]; exact Sl.mono S2.out (Gr.drew _)
  rw [← hw3]
  clear hw3 D2 HB S2
  have HDR := Lib.hid (realSum_any g aa an ac al w3 D3.out.re.real D3.out.ba)
  refine wpRest_one (i := 2) (by kernel_rfl) rfl rfl ?_
  intro K hK
  go_simp
  go_at_call 21
  refine HDR.out.mono ?_
  rintro e w4 ⟨v4, rfl, o4⟩
  obtain ⟨A4, c4, rfl, s4⟩ := o4.slice
  have g4 := o4.below
  have D4 := Lib.hid (D3.out.mono g4)
  have HB4 : Hid (Xk w4 b15 (xs SA sn sc d)) := Gr.blk g4 HB3.out
  have HG4 : Hid (BRow.ok w4 ⟨A4, _, c4, crcL al⟩) := s4
  have HR4 : Hid (BRow.ok w4 ⟨A1, n1, c1, crcL al⟩) := Sl.mono S3.out g4
  refine hK _ _ (fun _ => HB4.out) ?_
  clear hK s4 g4 o4 HDR S3 HB3 D3
  go_simp
  have HLN : Hid (n1 ≤ bn + 48) := by have h1 : (crcL al).length = n1 := Bs.len HR4.out; rw [show (crcL al).length = 8 from be_length 8 _] at h1; show n1 ≤ _; omega
  refine wpRest_one (i := 5) (by kernel_rfl) rfl rfl ?_
  intro K hK
  go_simp
  refine hK _ _ (fun _ => HB4.out) ?_
  clear hK
  go_simp
  refine wpRest_one (i := 6) (by kernel_rfl) rfl rfl ?_
  intro K hK
  go_simp
  refine hK _ _ (fun _ => HB4.out) ?_
  clear hK
  go_simp
  refine wpRest_one (i := 7) (by kernel_rfl) rfl rfl ?_
  intro K hK
  go_simp
  refine hK _ _ (fun _ => HB4.out) ?_
  clear hK
  go_simp
  refine wpRest_one (i := 8) (by kernel_rfl) rfl rfl ?_
  intro K hK
  go_simp
  refine hK _ _ (fun _ => HB4.out) ?_
  clear hK
  go_simp
  refine wpRest_one (i := 9) (by kernel_rfl) rfl rfl ?_
  intro K hK
  refine wp_store_row 33 (.tmp 14) (.tmp 122) rfl (h + 2) (xs SA sn sc (d)).toArray rfl rfl 33 xz.toArray D4.out.r (sizeX _ _ _ _) rfl (oneX _ _ _ _) ?_
  obtain ⟨hx, hg, hr, hre, ht⟩ := D4.out.ended (d) (BRow.mk A4 (crcL al).length c4 (crcL al)) ⟨A1, n1, c1, crcL al⟩ HG4.out HR4.out
  have HX5 := Lib.hid hx; have HG5 := Lib.hid hg; have HR5 := Lib.hid hr; have HE5 := Lib.hid hre; have HT5 := Lib.hid ht
  clear hx hg hr hre ht
  refine hK _ _ (fun q => by cases q) ?_
  clear hK
  go_simp
  refine wpRest_nil (by kernel_rfl) ?_
  go_wp2_with fail
  exact bodyPost_ret (v := .tuple #[(BRow.mk A4 (crcL al).length c4 (crcL al)).v, .slice A1 n1 c1, .bool true, .bool true, xv SA sn sc (d)]) (results_do Tryz.results28 _ _ (h + 2) SA sn sc (d) rfl HX5.out) rfl ⟨BRow.mk A4 (crcL al).length c4 (crcL al), BRow.mk A1 n1 c1 (crcL al), true, d, rfl, rfl, HG5.out, HR5.out, HLN.out, by omega, HE5.out, HT5.out, by omega, F1.out⟩
end
end Go.Proofs.YtcfbbgbjlgonpaaGreatDoor
