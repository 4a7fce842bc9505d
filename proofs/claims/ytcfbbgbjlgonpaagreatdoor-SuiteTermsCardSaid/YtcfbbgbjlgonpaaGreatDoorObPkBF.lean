/- Own texts of this claim, one behind the other. No condition. -/
import Derived.Test.YtcfbbgbjlgonpaaGreatDoorObPkBD

/- An act on a suite of terms, and on the document's: Sum, Open, Check. No condition. -/
namespace Go.Proofs.YtcfbbgbjlgonpaaGreatDoor
open Go.RowKit
set_option linter.unusedVariables false
set_option linter.unusedSimpArgs false
theorem sumS_len (S : List (List UInt8)) (b : List UInt8) : (sumS S b).length ≤ S.length + 1 := by
  unfold sumS
  split
  · exact Nat.le_succ _
  · rw [List.length_append]; exact Nat.le_refl _
theorem open_len (T : List Nd) (key b : List UInt8) : ((openT T key b).getD []).length ≤ b.length := by
  unfold openT
  split
  · exact Nat.zero_le _
  · split
    · exact Nat.zero_le _
    · split
      · split
        · next h => show (heldT T _).length ≤ _; omega
        · exact Nat.zero_le _
      · exact Nat.zero_le _
section
variable {w0 : World} {p g bm bs : Nat} {A : Option Addr} {c : Nat} {B : Option Addr} {e0 n : Nat} {T : List Nd} {L : List BRow}
set_option maxRecDepth 100000 in
set_option maxHeartbeats 2000000 in
theorem actT_sum (i j : Int) (x y : BRow) (s : List UInt8) (a b : BRow) (w : World) (st : ST w0 p g bm bs A c B e0 T L T (L.map (·.l)) w) (ba : RowK w0 w a) (bb : RowK w0 w b) (tg : TG2 T n) (hn : n ≤ 800) (hL : L.length ≤ 800) (hqa : a.n ≤ 20000) (hqb : b.n ≤ 20000) :
    Calls Tryz.prog 28 #[.pointer (some ⟨p, 0, none⟩), tv A T.length c B L.length e0, xact 5 i j x y s, a.v, b.v] w (RetDoT w0 w p g bm bs (.slice B L.length e0) b T L n) := by
  obtain ⟨k, hk⟩ : ∃ k : Int, k = 5 := ⟨_, rfl⟩
  rw [← hk]
  have HKK := Lib.hid hk; clear hk
  have hTl : T.length ≤ 800 := Nat.le_trans tg.g.l hn
  have D0 := Lib.hid (dwT_s k i j x y s st ba bb)
  obtain ⟨W, hW⟩ : ∃ W, W = dwT w A T.length c B L.length e0 k i j x y s := ⟨_, rfl⟩
  rw [← hW] at D0
  unfold dwT at hW
  have HW := Lib.hid hW
  clear hW st ba bb
  obtain ⟨xa, xn, xc, xl⟩ := x
  obtain ⟨ya, yn, yc, yl⟩ := y
  obtain ⟨aa, an, ac, al⟩ := a
  obtain ⟨ba', bn, bc, bl⟩ := b
  show Calls _ _ #[.pointer (some ⟨p, 0, none⟩), .agg #[.bool false, .slice none 0 0, .int .i64 0, .slice A T.length c, .slice B L.length e0], .agg #[.int .i64 k, .int .i64 i, .int .i64 j, .slice xa xn xc, .slice ya yn yc, .string ⟨s.toArray⟩], .slice aa an ac, .slice ba' bn bc] _ _
  simp only at HW hqa hqb
  have HA0 := Lib.hid (D0.out.ba.ok D0.out.st.below)
  have HB0 := Lib.hid (D0.out.bb.ok D0.out.st.below)
  have hal : al.length = an := HA0.out.len
  have hbl : bl.length = bn := HB0.out.len
  have HAL := Lib.hid hal; have HBL := Lib.hid hbl
  clear hal hbl
  go_enter Tryz.func28, Tryz.ntmps28
  go_upto_region 1 with fail
  rw [← HW.out]
  obtain ⟨h, hh⟩ : ∃ h, h = w.heap.size := ⟨_, rfl⟩
  rw [← hh] at D0 ⊢
  clear HW
  have HH := Lib.hid hh; clear hh
  have ck : W.cell? ⟨h + 1, 0, none⟩ = some (.int .i64 k) := D0.out.ak.cell 0
  have c5 : W.cell? ⟨h + 1, 5, none⟩ = some (.string ⟨s.toArray⟩) := D0.out.ak.cell 5
  rw [HKK.out] at ck
  have HTG : Hid (TG2 T (n + 3)) := tg.le (by omega)
  have HRF := Lib.hid (tSum_any w0 A B aa T.length c e0 an ac L al W D0.out.st.so (by omega) HA0.out hqa (D0.out.st.k2 D0.out.ba))
  obtain ⟨lw, hlw⟩ : ∃ lw, lw = markL (sumI (L.map (·.l)) al) := ⟨_, rfl⟩
  rw [← hlw] at HRF
  have HLW := Lib.hid hlw
  have HLN0 : Hid (lw.length = 8) := by show _ = _; rw [hlw]; exact markL_len _
  clear tg hlw
  go_upto_region 20 with (first
    | (refine wpList_load_row rfl 33 (.tmp 6) rfl h rfl 33 (ts A T.length c B L.length e0).toArray (0, 0) _ D0.out.xx Tryz.underlying33 rfl (size5 _ rfl) ?_)
    | (go_at_call 69; refine HRF.out.mono ?_; rintro e w1 ⟨B2, L2, e2, A1, n1, c1, rfl, r1, m1, t1, f1, _⟩; obtain ⟨st1, kd1⟩ := D0.out.st.rsum r1 t1; have D1 := Lib.hid (D0.out.step st1 kd1 t1.own); have S1 := Lib.hid (f1.old D0.out.kd.1); have HM1 := Lib.hid m1; clear r1 t1 f1 st1 kd1 m1)
    | (refine wpList_store_row rfl 33 (.tmp 27) (.tmp 116) rfl w1.heap.size (ts A T.length c B2 L2.length e2).toArray rfl rfl 33 xz.toArray (heap_alloc_new w1 _) (size5 _ rfl) rfl (oneT _ _ _ _ _ _) ?_))
  obtain ⟨b15, hb15⟩ : ∃ b15, b15 = w1.heap.size := ⟨_, rfl⟩
  rw [← hb15]
  obtain ⟨W2, hW2⟩ : ∃ W2, W2 = (w1.alloc (.cells #[.bool false, .slice none 0 0, .int .i64 0, .slice none 0 0, .slice none 0 0] 33)).setRow b15 (ts A T.length c B2 L2.length e2).toArray := ⟨_, rfl⟩
  have hz : Xk (w1.alloc (.cells #[.bool false, .slice none 0 0, .int .i64 0, .slice none 0 0, .slice none 0 0] 33)) b15 xz := by rw [hb15]; exact heap_alloc_new w1 _
  have g12 : Gr w1 W2 := by rw [hW2]; exact byRow_below (Gr.alloc _ _) (Nat.le_of_eq hb15.symm) _
  have HB : Hid (Xk W2 b15 (ts A T.length c B2 L2.length e2)) := by rw [hW2]; exact hz.row _
  have D2 := Lib.hid (D1.out.mono g12)
  have S2 := Lib.hid (S1.out.mono g12)
  rw [← hW2]
  clear hW2 hz g12 hb15 S1 D1 ck c5
  have HLL : Hid (L2.length ≤ L.length + 1) := by
    have h1 := congrArg List.length HM1.out
    have h2 := sumS_len (L.map (·.l)) al
    rw [List.length_map] at h1 h2
    show L2.length ≤ _
    omega
  refine wp_region_pre (by kernel_rfl) (fun w' => Xk w' b15 (ts A T.length c B2 L2.length e2)) (fun q => q == 4) (fun q => q == 9) [0, 1, 3, 4] 6 (by kernel_rfl) (by kernel_rfl) (by kernel_rfl) ((Gr.drew _).blk HB.out) ?_
  refine wpPre_e rfl rfl ?_
  apply Exists.intro
  refine ⟨fun wq hq => ?_, ?_⟩
  · clear hq
    unfold plainAt
    go_simp
    first | exact rfl | exact ⟨rfl, rfl⟩
  go_simp
  refine wpPre_e rfl rfl ?_
  apply Exists.intro
  refine ⟨fun wq hq => ?_, ?_⟩
  · clear hq
    unfold plainAt
    go_simp
    first | exact rfl | exact ⟨rfl, rfl⟩
  go_simp
  refine wpPre_e rfl rfl ?_
  apply Exists.intro
  refine ⟨fun wq hq => ?_, ?_⟩
  · clear hq
    unfold plainAt
    go_simp
    first | exact rfl | exact ⟨rfl, rfl⟩
  go_simp
  refine wpPre_e rfl rfl ⟨.agg (ts A T.length c B2 L2.length e2).toArray, fun wq hq => plainRow 33 (.tmp 27) rfl b15 0 rfl _ _ (Xk.whole (hq rfl)) Tryz.underlying33 rfl (size5c _ rfl), ?_⟩
  go_simp
  refine wpPre_nil ?_
  obtain ⟨w3, hw3⟩ : ∃ w3, w3 = W2.drew := ⟨_, rfl⟩
  have D3 := Lib.hid (D2.out.mono (Gr.drew W2)); have HB3 := Lib.hid (Gr.blk (Gr.drew W2) HB.out); have S3 := Lib.hid (S2.out.mono (Gr.drew W2))
  rw [← hw3] at D3 HB3 S3 ⊢
  clear hw3 D2 HB S2
  have HDR := Lib.hid (sum_many D3.out.st.sy.blk D3.out.st.sm (by rw [List.length_map]; omega) aa an ac al (D3.out.ba.ok D3.out.st.below))
  rw [← HLW.out] at HDR
  refine wpRest_one (i := 2) (by kernel_rfl) rfl rfl ?_
  intro K hK
  go_simp
  go_at_call 21
  refine HDR.out.mono ?_
  rintro e w4 ⟨A4, c4, rfl, sl4, s4, k4⟩
  rw [← HM1.out] at s4
  obtain ⟨st4, kd4⟩ := D3.out.st.sum s4 k4
  have D4 := Lib.hid (D3.out.step st4 kd4 (fun _ q => .inl q))
  have HB4 := Lib.hid (D3.out.st.keepX kd4 HB3.out)
  have HR4 := Lib.hid (S3.out.ku (D3.out.st.ku kd4))
  have HG4 : Hid (BRow.ok w4 ⟨A4, 8, c4, lw⟩) := sl4
  refine hK _ _ (fun _ => HB4.out) ?_
  clear hK s4 k4 st4 kd4 sl4 S3 HB3 D3
  go_simp
  have HLN : Hid (n1 ≤ bn + 48) := by have h1 : lw.length = n1 := Bs.len HR4.out.b; rw [HLN0.out] at h1; show n1 ≤ _; omega
  refine wpRest_one (i := 5) (by kernel_rfl) rfl rfl ?_
  intro K hK
  go_simp
  refine hK _ _ (fun _ => HB4.out) ?_
  clear hK
  go_simp
  refine wpRest_one (i := 6) (by kernel_rfl) rfl rfl ?_
  intro K hK
  go_simp
  refine hK _ _ (fun _ => HB4.out) ?_
  clear hK
  go_simp
  refine wpRest_one (i := 7) (by kernel_rfl) rfl rfl ?_
  intro K hK
  go_simp
  refine hK _ _ (fun _ => HB4.out) ?_
  clear hK
  go_simp
  refine wpRest_one (i := 8) (by kernel_rfl) rfl rfl ?_
  intro K hK
  go_simp
  refine hK _ _ (fun _ => HB4.out) ?_
  clear hK
  go_simp
  refine wpRest_one (i := 9) (by kernel_rfl) rfl rfl ?_
  intro K hK
  refine wp_store_row 33 (.tmp 14) (.tmp 122) rfl (h + 2) (ts A T.length c B2 L2.length e2).toArray rfl rfl 33 xz.toArray D4.out.r (size5 _ rfl) rfl (oneT _ _ _ _ _ _) ?_
  obtain ⟨hx, hg, hr, hre, ht⟩ := D4.out.ended (BRow.mk A4 8 c4 lw) ⟨A1, n1, c1, lw⟩ HG4.out HR4.out (ts A T.length c B2 L2.length e2)
  have HX5 := Lib.hid hx; have HG5 := Lib.hid hg; have HR5 := Lib.hid hr; have HE5 := Lib.hid hre; have HT5 := Lib.hid ht
  clear hx hg hr hre ht
  refine hK _ _ (fun q => by cases q) ?_
  clear hK
  go_simp
  refine wpRest_nil (by kernel_rfl) ?_
  go_wp2_with fail
  exact bodyPost_ret (v := .tuple #[(BRow.mk A4 8 c4 lw).v, .slice A1 n1 c1, .bool true, .bool true, .agg (ts A T.length c B2 L2.length e2).toArray]) (results_doT Tryz.results28 _ _ (h + 2) (ts A T.length c B2 L2.length e2) rfl rfl HX5.out) rfl ⟨BRow.mk A4 8 c4 lw, BRow.mk A1 n1 c1 (lw), true, A, c, B2, e2, T, L2, rfl, rfl, HG5.out, HR5.out, HLN.out, HE5.out, HT5.out, D4.out.ow, HTG.out, HLL.out⟩
set_option maxRecDepth 100000 in
set_option maxHeartbeats 2000000 in
theorem actT_open (i j : Int) (x y : BRow) (s : List UInt8) (a b : BRow) (w : World) (st : ST w0 p g bm bs A c B e0 T L T (L.map (·.l)) w) (ba : RowK w0 w a) (bb : RowK w0 w b) (tg : TG2 T n) (hn : n ≤ 800) (hL : L.length ≤ 800) (hqa : a.n ≤ 20000) (hqb : b.n ≤ 20000) :
    Calls Tryz.prog 28 #[.pointer (some ⟨p, 0, none⟩), tv A T.length c B L.length e0, xact 2 i j x y s, a.v, b.v] w (RetDoT w0 w p g bm bs (.slice B L.length e0) b T L n) := by
  obtain ⟨k, hk⟩ : ∃ k : Int, k = 2 := ⟨_, rfl⟩
  rw [← hk]
  have HKK := Lib.hid hk; clear hk
  have hTl : T.length ≤ 800 := Nat.le_trans tg.g.l hn
  have D0 := Lib.hid (dwT_s k i j x y s st ba bb)
  obtain ⟨W, hW⟩ : ∃ W, W = dwT w A T.length c B L.length e0 k i j x y s := ⟨_, rfl⟩
  rw [← hW] at D0
  unfold dwT at hW
  have HW := Lib.hid hW
  clear hW st ba bb
  obtain ⟨xa, xn, xc, xl⟩ := x
  obtain ⟨ya, yn, yc, yl⟩ := y
  obtain ⟨aa, an, ac, al⟩ := a
  obtain ⟨ba', bn, bc, bl⟩ := b
  show Calls _ _ #[.pointer (some ⟨p, 0, none⟩), .agg #[.bool false, .slice none 0 0, .int .i64 0, .slice A T.length c, .slice B L.length e0], .agg #[.int .i64 k, .int .i64 i, .int .i64 j, .slice xa xn xc, .slice ya yn yc, .string ⟨s.toArray⟩], .slice aa an ac, .slice ba' bn bc] _ _
  simp only at HW hqa hqb
  have HA0 := Lib.hid (D0.out.ba.ok D0.out.st.below)
  have HB0 := Lib.hid (D0.out.bb.ok D0.out.st.below)
  have hal : al.length = an := HA0.out.len
  have hbl : bl.length = bn := HB0.out.len
  have HAL := Lib.hid hal; have HBL := Lib.hid hbl
  clear hal hbl
  go_enter Tryz.func28, Tryz.ntmps28
  go_upto_region 1 with fail
  rw [← HW.out]
  obtain ⟨h, hh⟩ : ∃ h, h = w.heap.size := ⟨_, rfl⟩
  rw [← hh] at D0 ⊢
  clear HW
  have HH := Lib.hid hh; clear hh
  have ck : W.cell? ⟨h + 1, 0, none⟩ = some (.int .i64 k) := D0.out.ak.cell 0
  have c5 : W.cell? ⟨h + 1, 5, none⟩ = some (.string ⟨s.toArray⟩) := D0.out.ak.cell 5
  rw [HKK.out] at ck
  have HTG : Hid (TG2 T (n + 3)) := tg.le (by omega)
  have HSZ := Lib.hid tg.z
  have HTI := Lib.hid tg.g.i
  obtain ⟨Ar, cr, hv, hrb⟩ := Own.rs D0.out.st.rt
  injection hv with hv1 _ hv3
  subst hv1 hv3
  have HRF := Lib.hid (tOpen_any A B aa ba' T.length c L.length e0 an ac bn bc T al bl W hrb tg.g.i (by omega) HA0.out HB0.out)
  clear tg hrb
  obtain ⟨r, hr⟩ : ∃ r, r = openT T al bl := ⟨_, rfl⟩
  have HLR : Hid ((r.getD []).length ≤ bn) := by show _ ≤ _; rw [hr, ← HBL.out]; exact open_len T al bl
  have HR0 := Lib.hid hr
  rw [← hr] at HRF
  clear hr
  go_upto_region 10 with (first
    | (refine wpList_load_row rfl 33 (.tmp 6) rfl h rfl 33 (ts A T.length c B L.length e0).toArray (0, 0) _ D0.out.xx Tryz.underlying33 rfl (size5 _ rfl) ?_)
    | (go_at_call 66; refine HRF.out.mono ?_; rintro e w1 ⟨A1, n1, c1, rfl, f1, g1⟩; have D1 := Lib.hid (D0.out.mono g1); have S1 := Lib.hid (f1.old D0.out.kd.1); clear f1 g1 ck c5))
  have HDR := Lib.hid (SymS.open3 D1.out.st.sy (by omega) HSZ.out aa ba' an ac bn bc al bl (D1.out.ba.ok D1.out.st.below) (D1.out.bb.ok D1.out.st.below) (by omega))
  rw [← HR0.out] at HDR
  go_upto_region 11 with (go_at_call 19; refine HDR.out.mono ?_; rintro e w3 ⟨A3, n3, c3, rfl, s3, g3⟩; have D3 := Lib.hid (D1.out.mono g3); have S3r := Lib.hid (S1.out.mono g3); have S3g : Hid (BRow.ok w3 ⟨A3, n3, c3, r.getD []⟩) := s3; clear s3 g3)
  refine wp_region_pre (by kernel_rfl) (fun w' => Xk w' h (ts A T.length c B L.length e0)) (fun q => q == 4) (fun q => q == 9) [0, 1, 2, 3, 4] 5 (by kernel_rfl) (by kernel_rfl) (by kernel_rfl) ((Gr.drew _).blk D3.out.xx) ?_
  refine wpPre_e rfl rfl ?_
  apply Exists.intro
  refine ⟨fun wq hq => ?_, ?_⟩
  · clear hq
    unfold plainAt
    go_simp
    first | exact rfl | exact ⟨rfl, rfl⟩
  go_simp
  refine wpPre_e rfl rfl ?_
  apply Exists.intro
  refine ⟨fun wq hq => ?_, ?_⟩
  · clear hq
    unfold plainAt
    go_simp
    first | exact rfl | exact ⟨rfl, rfl⟩
  go_simp
  refine wpPre_e rfl rfl ?_
  apply Exists.intro
  refine ⟨fun wq hq => ?_, ?_⟩
  · clear hq
    unfold plainAt
    go_simp
    first | exact rfl | exact ⟨rfl, rfl⟩
  go_simp
  refine wpPre_e rfl rfl ?_
  apply Exists.intro
  refine ⟨fun wq hq => ?_, ?_⟩
  · clear hq
    unfold plainAt
    go_simp
    first | exact rfl | exact ⟨rfl, rfl⟩
  go_simp
  refine wpPre_e rfl rfl ⟨.agg (ts A T.length c B L.length e0).toArray, fun wq hq => plainRow 33 (.tmp 6) rfl h 0 rfl _ _ (Xk.whole (hq rfl)) Tryz.underlying33 rfl (size5c _ rfl), ?_⟩
  go_simp
  refine wpPre_nil ?_
  obtain ⟨w4, hw4⟩ : ∃ w4, w4 = w3.drew := ⟨_, rfl⟩
  have D4 := Lib.hid (D3.out.mono (Gr.drew w3)); have HR4 := Lib.hid (S3r.out.mono (Gr.drew w3)); have HG4 : Hid (BRow.ok w3.drew ⟨A3, n3, c3, r.getD []⟩) := Sl.mono S3g.out (Gr.drew w3)
  rw [← hw4] at D4 HR4 HG4 ⊢
  have HX4 := Lib.hid D4.out.xx
  clear hw4 D3 S3g S3r D1 HDR HRF S1
  have HLN : Hid (n1 ≤ bn + 48) := by have h1 : (r.getD []).length = n1 := Bs.len HR4.out.b; have h2 := HLR.out; show n1 ≤ _; omega
  refine wpRest_one (i := 5) (by kernel_rfl) rfl rfl ?_
  intro K hK
  go_simp
  refine hK _ _ (fun _ => HX4.out) ?_
  clear hK
  go_simp
  refine wpRest_one (i := 6) (by kernel_rfl) rfl rfl ?_
  intro K hK
  go_simp
  refine hK _ _ (fun _ => HX4.out) ?_
  clear hK
  go_simp
  refine wpRest_one (i := 7) (by kernel_rfl) rfl rfl ?_
  intro K hK
  go_simp
  refine hK _ _ (fun _ => HX4.out) ?_
  clear hK
  go_simp
  refine wpRest_one (i := 8) (by kernel_rfl) rfl rfl ?_
  intro K hK
  go_simp
  refine hK _ _ (fun _ => HX4.out) ?_
  clear hK
  go_simp
  refine wpRest_one (i := 9) (by kernel_rfl) rfl rfl ?_
  intro K hK
  refine wp_store_row 33 (.tmp 14) (.tmp 77) rfl (h + 2) (ts A T.length c B L.length e0).toArray rfl rfl 33 xz.toArray D4.out.r (size5 _ rfl) rfl (oneT _ _ _ _ _ _) ?_
  obtain ⟨hx, hg, hr, hre, ht⟩ := D4.out.ended (BRow.mk A3 n3 c3 (r.getD [])) (BRow.mk A1 n1 c1 (r.getD [])) HG4.out HR4.out (ts A T.length c B L.length e0)
  have HX5 := Lib.hid hx; have HG5 := Lib.hid hg; have HR5 := Lib.hid hr; have HE5 := Lib.hid hre; have HT5 := Lib.hid ht
  clear hx hg hr hre ht
  refine hK _ _ (fun q => by cases q) ?_
  clear hK
  go_simp
  refine wpRest_nil (by kernel_rfl) ?_
  go_wp2_with fail
  exact bodyPost_ret (v := .tuple #[(BRow.mk A3 n3 c3 (r.getD [])).v, (BRow.mk A1 n1 c1 (r.getD [])).v, .bool (r.isSome), .bool (r.isSome), .agg (ts A T.length c B L.length e0).toArray]) (results_doT Tryz.results28 _ _ (h + 2) (ts A T.length c B L.length e0) rfl rfl HX5.out) rfl ⟨BRow.mk A3 n3 c3 (r.getD []), BRow.mk A1 n1 c1 (r.getD []), r.isSome, A, c, B, e0, T, L, rfl, rfl, HG5.out, HR5.out, HLN.out, HE5.out, HT5.out, D4.out.ow, HTG.out, Nat.le_succ _⟩
set_option maxRecDepth 100000 in
set_option maxHeartbeats 2000000 in
theorem actT_check (k i j : Int) (x y : BRow) (s : List UInt8) (a b : BRow) (w : World) (st : ST w0 p g bm bs A c B e0 T L T (L.map (·.l)) w) (ba : RowK w0 w a) (bb : RowK w0 w b) (tg : TG2 T n) (hn : n ≤ 800) (hL : L.length ≤ 800) (hqa : a.n ≤ 20000) (hqb : b.n ≤ 20000) (hk0 : ¬ (0 ≤ k ∧ k ≤ 5)) :
    Calls Tryz.prog 28 #[.pointer (some ⟨p, 0, none⟩), tv A T.length c B L.length e0, xact k i j x y s, a.v, b.v] w (RetDoT w0 w p g bm bs (.slice B L.length e0) b T L n) := by
  have t0 : (k == 0) = false := by rw [beq_eq_false_iff_ne]; omega
  have t1 : (k == 1) = false := by rw [beq_eq_false_iff_ne]; omega
  have t2 : (k == 2) = false := by rw [beq_eq_false_iff_ne]; omega
  have t3 : (k == 3) = false := by rw [beq_eq_false_iff_ne]; omega
  have t4 : (k == 4) = false := by rw [beq_eq_false_iff_ne]; omega
  have t5 : (k == 5) = false := by rw [beq_eq_false_iff_ne]; omega
  clear hk0
  have HTG : Hid (TG2 T (n + 3)) := tg.le (by omega)
  clear tg
  have D0 := Lib.hid (dwT_s k i j x y s st ba bb)
  obtain ⟨W, hW⟩ : ∃ W, W = dwT w A T.length c B L.length e0 k i j x y s := ⟨_, rfl⟩
  rw [← hW] at D0
  unfold dwT at hW
  have HW := Lib.hid hW
  clear hW st ba bb
  obtain ⟨xa, xn, xc, xl⟩ := x
  obtain ⟨ya, yn, yc, yl⟩ := y
  obtain ⟨aa, an, ac, al⟩ := a
  obtain ⟨ba', bn, bc, bl⟩ := b
  show Calls _ _ #[.pointer (some ⟨p, 0, none⟩), .agg #[.bool false, .slice none 0 0, .int .i64 0, .slice A T.length c, .slice B L.length e0], .agg #[.int .i64 k, .int .i64 i, .int .i64 j, .slice xa xn xc, .slice ya yn yc, .string ⟨s.toArray⟩], .slice aa an ac, .slice ba' bn bc] _ _
  simp only at HW hqa hqb
  have HA0 := Lib.hid (D0.out.ba.ok D0.out.st.below)
  have HB0 := Lib.hid (D0.out.bb.ok D0.out.st.below)
  have hal : al.length = an := HA0.out.len
  have hbl : bl.length = bn := HB0.out.len
  have HAL := Lib.hid hal; have HBL := Lib.hid hbl
  clear hal hbl
  go_enter Tryz.func28, Tryz.ntmps28
  go_upto_region 1 with fail
  rw [← HW.out]
  obtain ⟨h, hh⟩ : ∃ h, h = w.heap.size := ⟨_, rfl⟩
  rw [← hh] at D0 ⊢
  clear HW
  have HH := Lib.hid hh; clear hh
  have ck : W.cell? ⟨h + 1, 0, none⟩ = some (.int .i64 k) := D0.out.ak.cell 0
  have c5 : W.cell? ⟨h + 1, 5, none⟩ = some (.string ⟨s.toArray⟩) := D0.out.ak.cell 5
  go_upto_region 21 with fail
  refine wp_region_pre (by kernel_rfl) (fun w' => Xk w' h (ts A T.length c B L.length e0)) (fun q => q == 4 || q == 8) (fun q => q == 13) [0, 1, 2, 5, 6, 4, 8] 7 (by kernel_rfl) (by kernel_rfl) (by kernel_rfl) ((Gr.drew _).blk D0.out.xx) ?_
  refine wpPre_e rfl rfl ?_
  apply Exists.intro
  refine ⟨fun wq hq => ?_, ?_⟩
  · clear hq
    unfold plainAt
    go_simp
    first | exact rfl | exact ⟨rfl, rfl⟩
  go_simp
  refine wpPre_e rfl rfl ?_
  apply Exists.intro
  refine ⟨fun wq hq => ?_, ?_⟩
  · clear hq
    unfold plainAt
    go_simp
    first | exact rfl | exact ⟨rfl, rfl⟩
  go_simp
  refine wpPre_e rfl rfl ?_
  apply Exists.intro
  refine ⟨fun wq hq => ?_, ?_⟩
  · clear hq
    unfold plainAt
    go_simp
    first | exact rfl | exact ⟨rfl, rfl⟩
  go_simp
  refine wpPre_e rfl rfl ?_
  apply Exists.intro
  refine ⟨fun wq hq => ?_, ?_⟩
  · clear hq
    unfold plainAt
    go_simp
    first | exact rfl | exact ⟨rfl, rfl⟩
  go_simp
  refine wpPre_e rfl rfl ?_
  apply Exists.intro
  refine ⟨fun wq hq => ?_, ?_⟩
  · clear hq
    unfold plainAt
    go_simp
    first | exact rfl | exact ⟨rfl, rfl⟩
  go_simp
  refine wpPre_e rfl rfl ⟨.agg (ts A T.length c B L.length e0).toArray, fun wq hq => plainRow 33 (.tmp 6) rfl h 0 rfl _ _ (Xk.whole (hq rfl)) Tryz.underlying33 rfl (size5c _ rfl), ?_⟩
  go_simp
  refine wpPre_e rfl rfl ⟨.agg (ts A T.length c B L.length e0).toArray, fun wq hq => plainRow 33 (.tmp 6) rfl h 0 rfl _ _ (Xk.whole (hq rfl)) Tryz.underlying33 rfl (size5c _ rfl), ?_⟩
  go_simp
  refine wpPre_nil ?_
  obtain ⟨w3, hw3⟩ : ∃ w3, w3 = W.drew := ⟨_, rfl⟩
  have D3 := Lib.hid (D0.out.mono (Gr.drew W))
  rw [← hw3] at D3 ⊢
  clear hw3 D0 ck c5
  have HDR := Lib.hid (check_many D3.out.st.sy.blk D3.out.st.sm (by rw [List.length_map]; omega) aa ba' an ac bn bc al bl (D3.out.ba.ok D3.out.st.below) (D3.out.bb.ok D3.out.st.below))
  obtain ⟨r, hr⟩ : ∃ r, r = checkS (L.map (·.l)) al bl := ⟨_, rfl⟩
  have HR0 := Lib.hid hr
  rw [← hr] at HDR
  clear hr
  refine wpRest_one (i := 3) (by kernel_rfl) rfl rfl ?_
  intro K hK
  go_simp
  go_at_call 20
  refine HDR.out.mono ?_
  rintro e w4 ⟨rfl, g4⟩
  have D4' := Lib.hid (D3.out.mono g4)
  have HX4' := Lib.hid D4'.out.xx
  refine hK _ _ (fun _ => HX4'.out) ?_
  clear hK g4 HDR D3
  go_simp
  have HDX := Lib.hid (tCheck_any w0 A B aa ba' T.length c e0 an ac bn bc L al bl w4 D4'.out.st.so (by omega) (D4'.out.ba.ok D4'.out.st.below) hqa (D4'.out.bb.ok D4'.out.st.below) (D4'.out.st.k2 D4'.out.ba) (D4'.out.st.k2 D4'.out.bb))
  rw [← HR0.out] at HDX
  refine wpRest_one (i := 7) (by kernel_rfl) rfl rfl ?_
  intro K hK
  go_simp
  go_at_call 70
  refine HDX.out.mono ?_
  rintro e w5 ⟨rfl, r5, t5'⟩
  obtain ⟨st5, kd5⟩ := D4'.out.st.rsum r5 t5'
  have D4 := Lib.hid (D4'.out.step st5 kd5 t5'.own)
  have HX4 := Lib.hid D4.out.xx
  refine hK _ _ (fun _ => HX4.out) ?_
  clear hK r5 t5' st5 kd5 HDX D4' HX4'
  go_simp
  have HG4 : Hid (BRow.ok w5 ⟨none, 0, 0, []⟩) := Sl.nil _ _
  have HR4 := Lib.hid (FB.nil w w5)
  have HLN : Hid (0 ≤ bn + 48) := Nat.zero_le _
  refine wpRest_one (i := 9) (by kernel_rfl) rfl rfl ?_
  intro K hK
  go_simp
  refine hK _ _ (fun _ => HX4.out) ?_
  clear hK
  go_simp
  refine wpRest_one (i := 10) (by kernel_rfl) rfl rfl ?_
  intro K hK
  go_simp
  refine hK _ _ (fun _ => HX4.out) ?_
  clear hK
  go_simp
  refine wpRest_one (i := 11) (by kernel_rfl) rfl rfl ?_
  intro K hK
  go_simp
  refine hK _ _ (fun _ => HX4.out) ?_
  clear hK
  go_simp
  refine wpRest_one (i := 12) (by kernel_rfl) rfl rfl ?_
  intro K hK
  go_simp
  refine hK _ _ (fun _ => HX4.out) ?_
  clear hK
  go_simp
  refine wpRest_one (i := 13) (by kernel_rfl) rfl rfl ?_
  intro K hK
  refine wp_store_row 33 (.tmp 14) (.tmp 131) rfl (h + 2) (ts A T.length c B L.length e0).toArray rfl rfl 33 xz.toArray D4.out.r (size5 _ rfl) rfl (oneT _ _ _ _ _ _) ?_
  obtain ⟨hx, hg, hr, hre, ht⟩ := D4.out.ended (BRow.mk none 0 0 []) (BRow.mk none 0 0 []) HG4.out HR4.out (ts A T.length c B L.length e0)
  have HX5 := Lib.hid hx; have HG5 := Lib.hid hg; have HR5 := Lib.hid hr; have HE5 := Lib.hid hre; have HT5 := Lib.hid ht
  clear hx hg hr hre ht
  refine hK _ _ (fun q => by cases q) ?_
  clear hK
  go_simp
  refine wpRest_nil (by kernel_rfl) ?_
  go_wp2_with fail
  exact bodyPost_ret (v := .tuple #[(BRow.mk none 0 0 []).v, (BRow.mk none 0 0 []).v, .bool (r), .bool (r), .agg (ts A T.length c B L.length e0).toArray]) (results_doT Tryz.results28 _ _ (h + 2) (ts A T.length c B L.length e0) rfl rfl HX5.out) rfl ⟨BRow.mk none 0 0 [], BRow.mk none 0 0 [], r, A, c, B, e0, T, L, rfl, rfl, HG5.out, HR5.out, HLN.out, HE5.out, HT5.out, D4.out.ow, HTG.out, Nat.le_succ _⟩
end
end Go.Proofs.YtcfbbgbjlgonpaaGreatDoor
