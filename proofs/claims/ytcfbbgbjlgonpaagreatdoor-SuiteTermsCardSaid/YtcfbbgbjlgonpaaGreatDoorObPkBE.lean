/- Own texts of this claim, one behind the other. No condition. -/
import Derived.Test.YtcfbbgbjlgonpaaGreatDoorObPkBD

/- An act on a suite of terms, and on the document's: what makes a term. No condition. -/
namespace Go.Proofs.YtcfbbgbjlgonpaaGreatDoor
open Go.RowKit
set_option linter.unusedVariables false
set_option linter.unusedSimpArgs false
section
variable {w0 : World} {p g bm bs : Nat} {A : Option Addr} {c : Nat} {B : Option Addr} {e0 n : Nat} {T : List Nd} {L : List BRow}
set_option maxRecDepth 100000 in
set_option maxHeartbeats 2000000 in
theorem actT_draw (i j : Int) (x y : BRow) (s : List UInt8) (a b : BRow) (w : World) (st : ST w0 p g bm bs A c B e0 T L T (L.map (·.l)) w) (ba : RowK w0 w a) (bb : RowK w0 w b) (tg : TG2 T n) (hn : n ≤ 800) (hL : L.length ≤ 800) (hqa : a.n ≤ 20000) (hqb : b.n ≤ 20000) :
    Calls Tryz.prog 28 #[.pointer (some ⟨p, 0, none⟩), tv A T.length c B L.length e0, xact 0 i j x y s, a.v, b.v] w (RetDoT w0 w p g bm bs (.slice B L.length e0) b T L n) := by
  obtain ⟨k, hk⟩ : ∃ k : Int, k = 0 := ⟨_, rfl⟩
  rw [← hk]
  have HKK := Lib.hid hk; clear hk
  have hTl : T.length ≤ 800 := Nat.le_trans tg.g.l hn
  have D0 := Lib.hid (dwT_s k i j x y s st ba bb)
  obtain ⟨W, hW⟩ : ∃ W, W = dwT w A T.length c B L.length e0 k i j x y s := ⟨_, rfl⟩
  rw [← hW] at D0
  unfold dwT at hW
  have HW := Lib.hid hW
  clear hW st ba bb
  obtain ⟨xa, xn, xc, xl⟩ := x
  obtain ⟨ya, yn, yc, yl⟩ := y
  obtain ⟨aa, an, ac, al⟩ := a
  obtain ⟨ba', bn, bc, bl⟩ := b
  show Calls _ _ #[.pointer (some ⟨p, 0, none⟩), .agg #[.bool false, .slice none 0 0, .int .i64 0, .slice A T.length c, .slice B L.length e0], .agg #[.int .i64 k, .int .i64 i, .int .i64 j, .slice xa xn xc, .slice ya yn yc, .string ⟨s.toArray⟩], .slice aa an ac, .slice ba' bn bc] _ _
  simp only at HW hqa hqb
  have HA0 := Lib.hid (D0.out.ba.ok D0.out.st.below)
  have HB0 := Lib.hid (D0.out.bb.ok D0.out.st.below)
  have hal : al.length = an := HA0.out.len
  have hbl : bl.length = bn := HB0.out.len
  have HAL := Lib.hid hal; have HBL := Lib.hid hbl
  clear hal hbl
  go_enter Tryz.func28, Tryz.ntmps28
  go_upto_region 1 with fail
  rw [← HW.out]
  obtain ⟨h, hh⟩ : ∃ h, h = w.heap.size := ⟨_, rfl⟩
  rw [← hh] at D0 ⊢
  clear HW
  have HH := Lib.hid hh; clear hh
  have ck : W.cell? ⟨h + 1, 0, none⟩ = some (.int .i64 k) := D0.out.ak.cell 0
  have c5 : W.cell? ⟨h + 1, 5, none⟩ = some (.string ⟨s.toArray⟩) := D0.out.ak.cell 5
  rw [HKK.out] at ck
  obtain ⟨T2, hT2⟩ : ∃ T2, T2 = (atomT T).1 := ⟨_, rfl⟩
  have HT2 := Lib.hid hT2
  have HTG : Hid (TG2 T2 (n + 3)) := by show TG2 _ _; rw [hT2]; exact (TG2.mk (tg.g.atom (by omega)) tg.z.atom).le (by omega)
  have HRF := Lib.hid (tDraw_any w0 A B c L.length e0 T W D0.out.st.rt (by omega))
  rw [← hT2] at HRF
  clear hT2 tg
  go_upto_region 4 with (first
    | (refine wpList_load_row rfl 33 (.tmp 6) rfl h rfl 33 (ts A T.length c B L.length e0).toArray (0, 0) _ D0.out.xx Tryz.underlying33 rfl (size5 _ rfl) ?_)
    | (go_at_call 64; refine HRF.out.mono ?_; rintro e w1 ⟨A2, c2, A1, n1, c1, rfl, r1, t1, f1⟩; obtain ⟨st1, kd1⟩ := D0.out.st.rtab r1 t1; have D1 := Lib.hid (D0.out.step st1 kd1 (fun _ q => .inl q)); have S1 := Lib.hid (f1.old D0.out.kd.1); clear r1 t1 f1 st1 kd1)
    | (refine wpList_store_row rfl 33 (.tmp 15) (.tmp 36) rfl w1.heap.size (ts A2 T2.length c2 B L.length e0).toArray rfl rfl 33 xz.toArray (heap_alloc_new w1 _) (size5 _ rfl) rfl (oneT _ _ _ _ _ _) ?_))
  obtain ⟨b15, hb15⟩ : ∃ b15, b15 = w1.heap.size := ⟨_, rfl⟩
  rw [← hb15]
  obtain ⟨W2, hW2⟩ : ∃ W2, W2 = (w1.alloc (.cells #[.bool false, .slice none 0 0, .int .i64 0, .slice none 0 0, .slice none 0 0] 33)).setRow b15 (ts A2 T2.length c2 B L.length e0).toArray := ⟨_, rfl⟩
  have hz : Xk (w1.alloc (.cells #[.bool false, .slice none 0 0, .int .i64 0, .slice none 0 0, .slice none 0 0] 33)) b15 xz := by rw [hb15]; exact heap_alloc_new w1 _
  have g12 : Gr w1 W2 := by rw [hW2]; exact byRow_below (Gr.alloc _ _) (Nat.le_of_eq hb15.symm) _
  have HB : Hid (Xk W2 b15 (ts A2 T2.length c2 B L.length e0)) := by rw [hW2]; exact hz.row _
  have D2 := Lib.hid (D1.out.mono g12)
  have S2 := Lib.hid (S1.out.mono g12)
  rw [← hW2]
  clear hW2 hz g12 hb15 S1 D1 ck c5
  refine wp_region_pre (by kernel_rfl) (fun w' => Xk w' b15 (ts A2 T2.length c2 B L.length e0)) (fun q => q == 3) (fun q => q == 8) [0, 2, 3] 6 (by kernel_rfl) (by kernel_rfl) (by kernel_rfl) ((Gr.drew _).blk HB.out) ?_
  refine wpPre_e rfl rfl ?_
  apply Exists.intro
  refine ⟨fun wq hq => ?_, ?_⟩
  · clear hq
    unfold plainAt
    go_simp
    first | exact rfl | exact ⟨rfl, rfl⟩
  go_simp
  refine wpPre_e rfl rfl ?_
  apply Exists.intro
  refine ⟨fun wq hq => ?_, ?_⟩
  · clear hq
    unfold plainAt
    go_simp
    first | exact rfl | exact ⟨rfl, rfl⟩
  go_simp
  refine wpPre_e rfl rfl ⟨.agg (ts A2 T2.length c2 B L.length e0).toArray, fun wq hq => plainRow 33 (.tmp 15) rfl b15 0 rfl _ _ (Xk.whole (hq rfl)) Tryz.underlying33 rfl (size5c _ rfl), ?_⟩
  go_simp
  refine wpPre_nil ?_
  obtain ⟨w3, hw3⟩ : ∃ w3, w3 = W2.drew := ⟨_, rfl⟩
  have D3 := Lib.hid (D2.out.mono (Gr.drew W2)); have HB3 := Lib.hid (Gr.blk (Gr.drew W2) HB.out); have S3 := Lib.hid (S2.out.mono (Gr.drew W2))
  rw [← hw3] at D3 HB3 S3 ⊢
  clear hw3 D2 HB S2
  have HDR := Lib.hid (SymS.draw3 D3.out.st.sy (by omega))
  refine wpRest_one (i := 1) (by kernel_rfl) rfl rfl ?_
  intro K hK
  go_simp
  go_at_call 22
  refine HDR.out.mono ?_
  rintro e w4 ⟨⟨v4, rfl, o4, s4, f4⟩, k4⟩
  obtain ⟨A4, c4, rfl, sl4⟩ := o4.slice
  have s4' : SymS w0 w4 p g bm bs T2 := by rw [HT2.out]; exact s4
  obtain ⟨st4, kd4⟩ := D3.out.st.tab s4' k4
  have D4 := Lib.hid (D3.out.step st4 kd4 (fun _ q => .inl q))
  have HB4 := Lib.hid (D3.out.st.keepX kd4 HB3.out)
  have HR4 := Lib.hid (S3.out.ku (D3.out.st.ku kd4))
  have HG4 := Lib.hid sl4
  refine hK _ _ (fun _ => HB4.out) ?_
  clear hK o4 s4 s4' k4 f4 st4 kd4 sl4 S3 HB3 D3
  go_simp
  have HLN : Hid (n1 ≤ bn + 48) := by have h1 : (handleL (T.length + 1)).length = n1 := Bs.len HR4.out.b; rw [handleL_len] at h1; show n1 ≤ _; omega
  refine wpRest_one (i := 4) (by kernel_rfl) rfl rfl ?_
  intro K hK
  go_simp
  refine hK _ _ (fun _ => HB4.out) ?_
  clear hK
  go_simp
  refine wpRest_one (i := 5) (by kernel_rfl) rfl rfl ?_
  intro K hK
  go_simp
  refine hK _ _ (fun _ => HB4.out) ?_
  clear hK
  go_simp
  refine wpRest_one (i := 6) (by kernel_rfl) rfl rfl ?_
  intro K hK
  go_simp
  refine hK _ _ (fun _ => HB4.out) ?_
  clear hK
  go_simp
  refine wpRest_one (i := 7) (by kernel_rfl) rfl rfl ?_
  intro K hK
  go_simp
  refine hK _ _ (fun _ => HB4.out) ?_
  clear hK
  go_simp
  refine wpRest_one (i := 8) (by kernel_rfl) rfl rfl ?_
  intro K hK
  refine wp_store_row 33 (.tmp 14) (.tmp 41) rfl (h + 2) (ts A2 T2.length c2 B L.length e0).toArray rfl rfl 33 xz.toArray D4.out.r (size5 _ rfl) rfl (oneT _ _ _ _ _ _) ?_
  obtain ⟨hx, hg, hr, hre, ht⟩ := D4.out.ended (BRow.mk A4 32 c4 (handleL (T.length + 1))) ⟨A1, n1, c1, handleL (T.length + 1)⟩ HG4.out HR4.out (ts A2 T2.length c2 B L.length e0)
  have HX5 := Lib.hid hx; have HG5 := Lib.hid hg; have HR5 := Lib.hid hr; have HE5 := Lib.hid hre; have HT5 := Lib.hid ht
  clear hx hg hr hre ht
  refine hK _ _ (fun q => by cases q) ?_
  clear hK
  go_simp
  refine wpRest_nil (by kernel_rfl) ?_
  go_wp2_with fail
  exact bodyPost_ret (v := .tuple #[(BRow.mk A4 32 c4 (handleL (T.length + 1))).v, .slice A1 n1 c1, .bool true, .bool true, .agg (ts A2 T2.length c2 B L.length e0).toArray]) (results_doT Tryz.results28 _ _ (h + 2) (ts A2 T2.length c2 B L.length e0) rfl rfl HX5.out) rfl ⟨BRow.mk A4 32 c4 (handleL (T.length + 1)), BRow.mk A1 n1 c1 (handleL (T.length + 1)), true, A2, c2, B, e0, T2, L, rfl, rfl, HG5.out, HR5.out, HLN.out, HE5.out, HT5.out, D4.out.ow, HTG.out, Nat.le_succ _⟩
set_option maxRecDepth 100000 in
set_option maxHeartbeats 2000000 in
theorem actT_mix (i j : Int) (x y : BRow) (s : List UInt8) (a b : BRow) (w : World) (st : ST w0 p g bm bs A c B e0 T L T (L.map (·.l)) w) (ba : RowK w0 w a) (bb : RowK w0 w b) (tg : TG2 T n) (hn : n ≤ 800) (hL : L.length ≤ 800) (hqa : a.n ≤ 20000) (hqb : b.n ≤ 20000) :
    Calls Tryz.prog 28 #[.pointer (some ⟨p, 0, none⟩), tv A T.length c B L.length e0, xact 4 i j x y s, a.v, b.v] w (RetDoT w0 w p g bm bs (.slice B L.length e0) b T L n) := by
  obtain ⟨k, hk⟩ : ∃ k : Int, k = 4 := ⟨_, rfl⟩
  rw [← hk]
  have HKK := Lib.hid hk; clear hk
  have hTl : T.length ≤ 800 := Nat.le_trans tg.g.l hn
  have D0 := Lib.hid (dwT_s k i j x y s st ba bb)
  obtain ⟨W, hW⟩ : ∃ W, W = dwT w A T.length c B L.length e0 k i j x y s := ⟨_, rfl⟩
  rw [← hW] at D0
  unfold dwT at hW
  have HW := Lib.hid hW
  clear hW st ba bb
  obtain ⟨xa, xn, xc, xl⟩ := x
  obtain ⟨ya, yn, yc, yl⟩ := y
  obtain ⟨aa, an, ac, al⟩ := a
  obtain ⟨ba', bn, bc, bl⟩ := b
  show Calls _ _ #[.pointer (some ⟨p, 0, none⟩), .agg #[.bool false, .slice none 0 0, .int .i64 0, .slice A T.length c, .slice B L.length e0], .agg #[.int .i64 k, .int .i64 i, .int .i64 j, .slice xa xn xc, .slice ya yn yc, .string ⟨s.toArray⟩], .slice aa an ac, .slice ba' bn bc] _ _
  simp only at HW hqa hqb
  have HA0 := Lib.hid (D0.out.ba.ok D0.out.st.below)
  have HB0 := Lib.hid (D0.out.bb.ok D0.out.st.below)
  have hal : al.length = an := HA0.out.len
  have hbl : bl.length = bn := HB0.out.len
  have HAL := Lib.hid hal; have HBL := Lib.hid hbl
  clear hal hbl
  go_enter Tryz.func28, Tryz.ntmps28
  go_upto_region 1 with fail
  rw [← HW.out]
  obtain ⟨h, hh⟩ : ∃ h, h = w.heap.size := ⟨_, rfl⟩
  rw [← hh] at D0 ⊢
  clear HW
  have HH := Lib.hid hh; clear hh
  have ck : W.cell? ⟨h + 1, 0, none⟩ = some (.int .i64 k) := D0.out.ak.cell 0
  have c5 : W.cell? ⟨h + 1, 5, none⟩ = some (.string ⟨s.toArray⟩) := D0.out.ak.cell 5
  rw [HKK.out] at ck
  obtain ⟨T2, hT2⟩ : ∃ T2, T2 = (mixT T al bl).1 := ⟨_, rfl⟩
  have HT2 := Lib.hid hT2
  have hla : al.length ≤ maxLen := by have := HAL.out; simp only [maxLen]; omega
  have hlb : bl.length ≤ maxLen := by have := HBL.out; simp only [maxLen]; omega
  have HTG : Hid (TG2 T2 (n + 3)) := by show TG2 _ _; rw [hT2]; exact TG2.mk (tg.g.mix (by omega) al bl hla hlb) (tg.z.mix (by have := HAL.out; omega) (by have := HBL.out; omega))
  have HRF := Lib.hid (tMix_any w0 A B aa ba' c L.length e0 an ac bn bc T al bl W D0.out.st.rt (tg.g.le (by omega)) HA0.out HB0.out (D0.out.st.k1 D0.out.bb))
  rw [← hT2] at HRF
  clear hT2 tg hla hlb
  go_upto_region 17 with (first
    | (refine wpList_load_row rfl 33 (.tmp 6) rfl h rfl 33 (ts A T.length c B L.length e0).toArray (0, 0) _ D0.out.xx Tryz.underlying33 rfl (size5 _ rfl) ?_)
    | (go_at_call 68; refine HRF.out.mono ?_; rintro e w1 ⟨A2, c2, A1, n1, c1, rfl, r1, t1, f1⟩; obtain ⟨st1, kd1⟩ := D0.out.st.rtab r1 t1; have D1 := Lib.hid (D0.out.step st1 kd1 (fun _ q => .inl q)); have S1 := Lib.hid (f1.old D0.out.kd.1); clear r1 t1 f1 st1 kd1)
    | (refine wpList_store_row rfl 33 (.tmp 25) (.tmp 102) rfl w1.heap.size (ts A2 T2.length c2 B L.length e0).toArray rfl rfl 33 xz.toArray (heap_alloc_new w1 _) (size5 _ rfl) rfl (oneT _ _ _ _ _ _) ?_))
  obtain ⟨b15, hb15⟩ : ∃ b15, b15 = w1.heap.size := ⟨_, rfl⟩
  rw [← hb15]
  obtain ⟨W2, hW2⟩ : ∃ W2, W2 = (w1.alloc (.cells #[.bool false, .slice none 0 0, .int .i64 0, .slice none 0 0, .slice none 0 0] 33)).setRow b15 (ts A2 T2.length c2 B L.length e0).toArray := ⟨_, rfl⟩
  have hz : Xk (w1.alloc (.cells #[.bool false, .slice none 0 0, .int .i64 0, .slice none 0 0, .slice none 0 0] 33)) b15 xz := by rw [hb15]; exact heap_alloc_new w1 _
  have g12 : Gr w1 W2 := by rw [hW2]; exact byRow_below (Gr.alloc _ _) (Nat.le_of_eq hb15.symm) _
  have HB : Hid (Xk W2 b15 (ts A2 T2.length c2 B L.length e0)) := by rw [hW2]; exact hz.row _
  have D2 := Lib.hid (D1.out.mono g12)
  have S2 := Lib.hid (S1.out.mono g12)
  rw [← hW2]
  clear hW2 hz g12 hb15 S1 D1 ck c5
  refine wp_region_pre (by kernel_rfl) (fun w' => Xk w' b15 (ts A2 T2.length c2 B L.length e0)) (fun q => q == 5) (fun q => q == 10) [0, 1, 2, 4, 5] 6 (by kernel_rfl) (by kernel_rfl) (by kernel_rfl) ((Gr.drew _).blk HB.out) ?_
  refine wpPre_e rfl rfl ?_
  apply Exists.intro
  refine ⟨fun wq hq => ?_, ?_⟩
  · clear hq
    unfold plainAt
    go_simp
    first | exact rfl | exact ⟨rfl, rfl⟩
  go_simp
  refine wpPre_e rfl rfl ?_
  apply Exists.intro
  refine ⟨fun wq hq => ?_, ?_⟩
  · clear hq
    unfold plainAt
    go_simp
    first | exact rfl | exact ⟨rfl, rfl⟩
  go_simp
  refine wpPre_e rfl rfl ?_
  apply Exists.intro
  refine ⟨fun wq hq => ?_, ?_⟩
  · clear hq
    unfold plainAt
    go_simp
    first | exact rfl | exact ⟨rfl, rfl⟩
  go_simp
  refine wpPre_e rfl rfl ?_
  apply Exists.intro
  refine ⟨fun wq hq => ?_, ?_⟩
  · clear hq
    unfold plainAt
    go_simp
    first | exact rfl | exact ⟨rfl, rfl⟩
  go_simp
  refine wpPre_e rfl rfl ⟨.agg (ts A2 T2.length c2 B L.length e0).toArray, fun wq hq => plainRow 33 (.tmp 25) rfl b15 0 rfl _ _ (Xk.whole (hq rfl)) Tryz.underlying33 rfl (size5c _ rfl), ?_⟩
  go_simp
  refine wpPre_nil ?_
  obtain ⟨w3, hw3⟩ : ∃ w3, w3 = W2.drew := ⟨_, rfl⟩
  have D3 := Lib.hid (D2.out.mono (Gr.drew W2)); have HB3 := Lib.hid (Gr.blk (Gr.drew W2) HB.out); have S3 := Lib.hid (S2.out.mono (Gr.drew W2))
  rw [← hw3] at D3 HB3 S3 ⊢
  clear hw3 D2 HB S2
  have HDR := Lib.hid (SymS.mix3 D3.out.st.sy (by omega) aa ba' an ac bn bc al bl (D3.out.ba.ok D3.out.st.below) (D3.out.bb.ok D3.out.st.below) (D3.out.st.k3 D3.out.bb))
  refine wpRest_one (i := 3) (by kernel_rfl) rfl rfl ?_
  intro K hK
  go_simp
  go_at_call 24
  refine HDR.out.mono ?_
  rintro e w4 ⟨⟨v4, rfl, o4, s4, f4⟩, k4⟩
  obtain ⟨A4, c4, rfl, sl4⟩ := o4.slice
  have s4' : SymS w0 w4 p g bm bs T2 := by rw [HT2.out]; exact s4
  obtain ⟨st4, kd4⟩ := D3.out.st.tab s4' k4
  have D4 := Lib.hid (D3.out.step st4 kd4 (fun _ q => .inl q))
  have HB4 := Lib.hid (D3.out.st.keepX kd4 HB3.out)
  have HR4 := Lib.hid (S3.out.ku (D3.out.st.ku kd4))
  have HG4 := Lib.hid sl4
  refine hK _ _ (fun _ => HB4.out) ?_
  clear hK o4 s4 s4' k4 f4 st4 kd4 sl4 S3 HB3 D3
  go_simp
  have HLN : Hid (n1 ≤ bn + 48) := by have h1 : (handleL (mixT T al bl).2).length = n1 := Bs.len HR4.out.b; rw [handleL_len] at h1; show n1 ≤ _; omega
  refine wpRest_one (i := 6) (by kernel_rfl) rfl rfl ?_
  intro K hK
  go_simp
  refine hK _ _ (fun _ => HB4.out) ?_
  clear hK
  go_simp
  refine wpRest_one (i := 7) (by kernel_rfl) rfl rfl ?_
  intro K hK
  go_simp
  refine hK _ _ (fun _ => HB4.out) ?_
  clear hK
  go_simp
  refine wpRest_one (i := 8) (by kernel_rfl) rfl rfl ?_
  intro K hK
  go_simp
  refine hK _ _ (fun _ => HB4.out) ?_
  clear hK
  go_simp
  refine wpRest_one (i := 9) (by kernel_rfl) rfl rfl ?_
  intro K hK
  go_simp
  refine hK _ _ (fun _ => HB4.out) ?_
  clear hK
  go_simp
  refine wpRest_one (i := 10) (by kernel_rfl) rfl rfl ?_
  intro K hK
  refine wp_store_row 33 (.tmp 14) (.tmp 109) rfl (h + 2) (ts A2 T2.length c2 B L.length e0).toArray rfl rfl 33 xz.toArray D4.out.r (size5 _ rfl) rfl (oneT _ _ _ _ _ _) ?_
  obtain ⟨hx, hg, hr, hre, ht⟩ := D4.out.ended (BRow.mk A4 32 c4 (handleL (mixT T al bl).2)) ⟨A1, n1, c1, handleL (mixT T al bl).2⟩ HG4.out HR4.out (ts A2 T2.length c2 B L.length e0)
  have HX5 := Lib.hid hx; have HG5 := Lib.hid hg; have HR5 := Lib.hid hr; have HE5 := Lib.hid hre; have HT5 := Lib.hid ht
  clear hx hg hr hre ht
  refine hK _ _ (fun q => by cases q) ?_
  clear hK
  go_simp
  refine wpRest_nil (by kernel_rfl) ?_
  go_wp2_with fail
  exact bodyPost_ret (v := .tuple #[(BRow.mk A4 32 c4 (handleL (mixT T al bl).2)).v, .slice A1 n1 c1, .bool true, .bool true, .agg (ts A2 T2.length c2 B L.length e0).toArray]) (results_doT Tryz.results28 _ _ (h + 2) (ts A2 T2.length c2 B L.length e0) rfl rfl HX5.out) rfl ⟨BRow.mk A4 32 c4 (handleL (mixT T al bl).2), BRow.mk A1 n1 c1 (handleL (mixT T al bl).2), true, A2, c2, B, e0, T2, L, rfl, rfl, HG5.out, HR5.out, HLN.out, HE5.out, HT5.out, D4.out.ow, HTG.out, Nat.le_succ _⟩
set_option maxRecDepth 100000 in
set_option maxHeartbeats 2000000 in
theorem actT_derive (i j : Int) (x y : BRow) (s : List UInt8) (a b : BRow) (w : World) (st : ST w0 p g bm bs A c B e0 T L T (L.map (·.l)) w) (ba : RowK w0 w a) (bb : RowK w0 w b) (tg : TG2 T n) (hn : n ≤ 800) (hL : L.length ≤ 800) (hqa : a.n ≤ 20000) (hqb : b.n ≤ 20000) (hsl : s.length ≤ 5000) :
    Calls Tryz.prog 28 #[.pointer (some ⟨p, 0, none⟩), tv A T.length c B L.length e0, xact 3 i j x y s, a.v, b.v] w (RetDoT w0 w p g bm bs (.slice B L.length e0) b T L n) := by
  obtain ⟨k, hk⟩ : ∃ k : Int, k = 3 := ⟨_, rfl⟩
  rw [← hk]
  have HKK := Lib.hid hk; clear hk
  have hTl : T.length ≤ 800 := Nat.le_trans tg.g.l hn
  have D0 := Lib.hid (dwT_s k i j x y s st ba bb)
  obtain ⟨W, hW⟩ : ∃ W, W = dwT w A T.length c B L.length e0 k i j x y s := ⟨_, rfl⟩
  rw [← hW] at D0
  unfold dwT at hW
  have HW := Lib.hid hW
  clear hW st ba bb
  obtain ⟨xa, xn, xc, xl⟩ := x
  obtain ⟨ya, yn, yc, yl⟩ := y
  obtain ⟨aa, an, ac, al⟩ := a
  obtain ⟨ba', bn, bc, bl⟩ := b
  show Calls _ _ #[.pointer (some ⟨p, 0, none⟩), .agg #[.bool false, .slice none 0 0, .int .i64 0, .slice A T.length c, .slice B L.length e0], .agg #[.int .i64 k, .int .i64 i, .int .i64 j, .slice xa xn xc, .slice ya yn yc, .string ⟨s.toArray⟩], .slice aa an ac, .slice ba' bn bc] _ _
  simp only at HW hqa hqb
  have HA0 := Lib.hid (D0.out.ba.ok D0.out.st.below)
  have HB0 := Lib.hid (D0.out.bb.ok D0.out.st.below)
  have hal : al.length = an := HA0.out.len
  have hbl : bl.length = bn := HB0.out.len
  have HAL := Lib.hid hal; have HBL := Lib.hid hbl
  clear hal hbl
  go_enter Tryz.func28, Tryz.ntmps28
  go_upto_region 1 with fail
  rw [← HW.out]
  obtain ⟨h, hh⟩ : ∃ h, h = w.heap.size := ⟨_, rfl⟩
  rw [← hh] at D0 ⊢
  clear HW
  have HH := Lib.hid hh; clear hh
  have ck : W.cell? ⟨h + 1, 0, none⟩ = some (.int .i64 k) := D0.out.ak.cell 0
  have c5 : W.cell? ⟨h + 1, 5, none⟩ = some (.string ⟨s.toArray⟩) := D0.out.ak.cell 5
  rw [HKK.out] at ck
  obtain ⟨T2, hT2⟩ : ∃ T2, T2 = (derT T al ⟨s.toArray⟩).1 := ⟨_, rfl⟩
  have HT2 := Lib.hid hT2
  have hla : al.length ≤ maxLen := by have := HAL.out; simp only [maxLen]; omega
  have hss : (⟨s.toArray⟩ : ByteArray).size = s.length := by show s.toArray.size = _; rw [List.size_toArray]
  have hls : (⟨s.toArray⟩ : ByteArray).size ≤ maxLen := by rw [hss]; simp only [maxLen]; omega
  have HTG : Hid (TG2 T2 (n + 3)) := by show TG2 _ _; rw [hT2]; exact (TG2.mk (tg.g.der (by omega) al hla ⟨s.toArray⟩ hls) (tg.z.der (by have := HAL.out; omega) (by rw [hss]; omega))).le (by omega)
  have HRF := Lib.hid (tDerive_any w0 A B aa c L.length e0 an ac T al ⟨s.toArray⟩ W D0.out.st.rt (tg.g.le (by omega)) HA0.out hls)
  rw [← hT2] at HRF
  have HLS := Lib.hid hls
  clear hT2 tg hla hls hss
  go_upto_region 14 with (first
    | (refine wpList_load_row rfl 33 (.tmp 6) rfl h rfl 33 (ts A T.length c B L.length e0).toArray (0, 0) _ D0.out.xx Tryz.underlying33 rfl (size5 _ rfl) ?_)
    | (go_at_call 67; refine HRF.out.mono ?_; rintro e w1 ⟨A2, c2, A1, n1, c1, rfl, r1, t1, f1⟩; obtain ⟨st1, kd1⟩ := D0.out.st.rtab r1 t1; have D1 := Lib.hid (D0.out.step st1 kd1 (fun _ q => .inl q)); have S1 := Lib.hid (f1.old D0.out.kd.1); clear r1 t1 f1 st1 kd1)
    | (refine wpList_store_row rfl 33 (.tmp 23) (.tmp 86) rfl w1.heap.size (ts A2 T2.length c2 B L.length e0).toArray rfl rfl 33 xz.toArray (heap_alloc_new w1 _) (size5 _ rfl) rfl (oneT _ _ _ _ _ _) ?_))
  obtain ⟨b15, hb15⟩ : ∃ b15, b15 = w1.heap.size := ⟨_, rfl⟩
  rw [← hb15]
  obtain ⟨W2, hW2⟩ : ∃ W2, W2 = (w1.alloc (.cells #[.bool false, .slice none 0 0, .int .i64 0, .slice none 0 0, .slice none 0 0] 33)).setRow b15 (ts A2 T2.length c2 B L.length e0).toArray := ⟨_, rfl⟩
  have hz : Xk (w1.alloc (.cells #[.bool false, .slice none 0 0, .int .i64 0, .slice none 0 0, .slice none 0 0] 33)) b15 xz := by rw [hb15]; exact heap_alloc_new w1 _
  have g12 : Gr w1 W2 := by rw [hW2]; exact byRow_below (Gr.alloc _ _) (Nat.le_of_eq hb15.symm) _
  have HB : Hid (Xk W2 b15 (ts A2 T2.length c2 B L.length e0)) := by rw [hW2]; exact hz.row _
  have D2 := Lib.hid (D1.out.mono g12)
  have S2 := Lib.hid (S1.out.mono g12)
  rw [← hW2]
  clear hW2 hz g12 hb15 S1 D1 ck c5
  refine wp_region_pre (by kernel_rfl) (fun w' => Xk w' b15 (ts A2 T2.length c2 B L.length e0) ∧ w'.cell? ⟨h + 1, 5, none⟩ = some (.string ⟨s.toArray⟩)) (fun q => q == 3 || q == 6) (fun q => q == 11) [0, 1, 2, 5, 3, 6] 6 (by kernel_rfl) (by kernel_rfl) (by kernel_rfl) ⟨(Gr.drew _).blk HB.out, D2.out.ak.cell 5⟩ ?_
  refine wpPre_e rfl rfl ?_
  apply Exists.intro
  refine ⟨fun wq hq => ?_, ?_⟩
  · clear hq
    unfold plainAt
    go_simp
    first | exact rfl | exact ⟨rfl, rfl⟩
  go_simp
  refine wpPre_e rfl rfl ?_
  apply Exists.intro
  refine ⟨fun wq hq => ?_, ?_⟩
  · clear hq
    unfold plainAt
    go_simp
    first | exact rfl | exact ⟨rfl, rfl⟩
  go_simp
  refine wpPre_e rfl rfl ?_
  apply Exists.intro
  refine ⟨fun wq hq => ?_, ?_⟩
  · clear hq
    unfold plainAt
    go_simp
    first | exact rfl | exact ⟨rfl, rfl⟩
  go_simp
  refine wpPre_e rfl rfl ?_
  apply Exists.intro
  refine ⟨fun wq hq => ?_, ?_⟩
  · clear hq
    unfold plainAt
    go_simp
    first | exact rfl | exact ⟨rfl, rfl⟩
  go_simp
  refine wpPre_e rfl rfl ?_
  apply Exists.intro
  refine ⟨fun wq hq => ?_, ?_⟩
  · replace hq := hq rfl
    have c5' := hq.2
    unfold plainAt
    go_simp
    first | exact rfl | exact ⟨rfl, rfl⟩
  go_simp
  refine wpPre_e rfl rfl ⟨.agg (ts A2 T2.length c2 B L.length e0).toArray, fun wq hq => plainRow 33 (.tmp 23) rfl b15 0 rfl _ _ (Xk.whole ((hq rfl).1)) Tryz.underlying33 rfl (size5c _ rfl), ?_⟩
  go_simp
  refine wpPre_nil ?_
  obtain ⟨w3, hw3⟩ : ∃ w3, w3 = W2.drew := ⟨_, rfl⟩
  have D3 := Lib.hid (D2.out.mono (Gr.drew W2)); have HB3 := Lib.hid (Gr.blk (Gr.drew W2) HB.out); have S3 := Lib.hid (S2.out.mono (Gr.drew W2))
  rw [← hw3] at D3 HB3 S3 ⊢
  clear hw3 D2 HB S2
  have HDR := Lib.hid (SymS.derive3 D3.out.st.sy (by omega) aa an ac al (D3.out.ba.ok D3.out.st.below) ⟨s.toArray⟩ HLS.out)
  refine wpRest_one (i := 4) (by kernel_rfl) rfl rfl ?_
  intro K hK
  go_simp
  go_at_call 23
  refine HDR.out.mono ?_
  rintro e w4 ⟨⟨v4, rfl, o4, s4, f4⟩, k4⟩
  obtain ⟨A4, c4, rfl, sl4⟩ := o4.slice
  have s4' : SymS w0 w4 p g bm bs T2 := by rw [HT2.out]; exact s4
  obtain ⟨st4, kd4⟩ := D3.out.st.tab s4' k4
  have D4 := Lib.hid (D3.out.step st4 kd4 (fun _ q => .inl q))
  have HB4 := Lib.hid (D3.out.st.keepX kd4 HB3.out)
  have HR4 := Lib.hid (S3.out.ku (D3.out.st.ku kd4))
  have HG4 := Lib.hid sl4
  have HC4 : Hid (Xk w4 b15 (ts A2 T2.length c2 B L.length e0) ∧ w4.cell? ⟨h + 1, 5, none⟩ = some (.string ⟨s.toArray⟩)) := ⟨HB4.out, D4.out.ak.cell 5⟩
  refine hK _ _ (fun _ => HC4.out) ?_
  clear hK o4 s4 s4' k4 f4 st4 kd4 sl4 S3 HB3 D3
  go_simp
  have HLN : Hid (n1 ≤ bn + 48) := by have h1 : (handleL (derT T al ⟨s.toArray⟩).2).length = n1 := Bs.len HR4.out.b; rw [handleL_len] at h1; show n1 ≤ _; omega
  refine wpRest_one (i := 7) (by kernel_rfl) rfl rfl ?_
  intro K hK
  go_simp
  refine hK _ _ (fun _ => HC4.out) ?_
  clear hK
  go_simp
  refine wpRest_one (i := 8) (by kernel_rfl) rfl rfl ?_
  intro K hK
  go_simp
  refine hK _ _ (fun _ => HC4.out) ?_
  clear hK
  go_simp
  refine wpRest_one (i := 9) (by kernel_rfl) rfl rfl ?_
  intro K hK
  go_simp
  refine hK _ _ (fun _ => HC4.out) ?_
  clear hK
  go_simp
  refine wpRest_one (i := 10) (by kernel_rfl) rfl rfl ?_
  intro K hK
  go_simp
  refine hK _ _ (fun _ => HC4.out) ?_
  clear hK
  go_simp
  refine wpRest_one (i := 11) (by kernel_rfl) rfl rfl ?_
  intro K hK
  refine wp_store_row 33 (.tmp 14) (.tmp 94) rfl (h + 2) (ts A2 T2.length c2 B L.length e0).toArray rfl rfl 33 xz.toArray D4.out.r (size5 _ rfl) rfl (oneT _ _ _ _ _ _) ?_
  obtain ⟨hx, hg, hr, hre, ht⟩ := D4.out.ended (BRow.mk A4 32 c4 (handleL (derT T al ⟨s.toArray⟩).2)) ⟨A1, n1, c1, handleL (derT T al ⟨s.toArray⟩).2⟩ HG4.out HR4.out (ts A2 T2.length c2 B L.length e0)
  have HX5 := Lib.hid hx; have HG5 := Lib.hid hg; have HR5 := Lib.hid hr; have HE5 := Lib.hid hre; have HT5 := Lib.hid ht
  clear hx hg hr hre ht
  refine hK _ _ (fun q => by cases q) ?_
  clear hK
  go_simp
  refine wpRest_nil (by kernel_rfl) ?_
  go_wp2_with fail
  exact bodyPost_ret (v := .tuple #[(BRow.mk A4 32 c4 (handleL (derT T al ⟨s.toArray⟩).2)).v, .slice A1 n1 c1, .bool true, .bool true, .agg (ts A2 T2.length c2 B L.length e0).toArray]) (results_doT Tryz.results28 _ _ (h + 2) (ts A2 T2.length c2 B L.length e0) rfl rfl HX5.out) rfl ⟨BRow.mk A4 32 c4 (handleL (derT T al ⟨s.toArray⟩).2), BRow.mk A1 n1 c1 (handleL (derT T al ⟨s.toArray⟩).2), true, A2, c2, B, e0, T2, L, rfl, rfl, HG5.out, HR5.out, HLN.out, HE5.out, HT5.out, D4.out.ow, HTG.out, Nat.le_succ _⟩
set_option maxRecDepth 100000 in
set_option maxHeartbeats 2000000 in
theorem actT_seal (i j : Int) (x y : BRow) (s : List UInt8) (a b : BRow) (w : World) (st : ST w0 p g bm bs A c B e0 T L T (L.map (·.l)) w) (ba : RowK w0 w a) (bb : RowK w0 w b) (tg : TG2 T n) (hn : n ≤ 800) (hL : L.length ≤ 800) (hqa : a.n ≤ 20000) (hqb : b.n ≤ 20000) (h32 : a.n = 32) :
    Calls Tryz.prog 28 #[.pointer (some ⟨p, 0, none⟩), tv A T.length c B L.length e0, xact 1 i j x y s, a.v, b.v] w (RetDoT w0 w p g bm bs (.slice B L.length e0) b T L n) := by
  obtain ⟨k, hk⟩ : ∃ k : Int, k = 1 := ⟨_, rfl⟩
  rw [← hk]
  have HKK := Lib.hid hk; clear hk
  have hTl : T.length ≤ 800 := Nat.le_trans tg.g.l hn
  have D0 := Lib.hid (dwT_s k i j x y s st ba bb)
  obtain ⟨W, hW⟩ : ∃ W, W = dwT w A T.length c B L.length e0 k i j x y s := ⟨_, rfl⟩
  rw [← hW] at D0
  unfold dwT at hW
  have HW := Lib.hid hW
  clear hW st ba bb
  obtain ⟨xa, xn, xc, xl⟩ := x
  obtain ⟨ya, yn, yc, yl⟩ := y
  obtain ⟨aa, an, ac, al⟩ := a
  obtain ⟨ba', bn, bc, bl⟩ := b
  show Calls _ _ #[.pointer (some ⟨p, 0, none⟩), .agg #[.bool false, .slice none 0 0, .int .i64 0, .slice A T.length c, .slice B L.length e0], .agg #[.int .i64 k, .int .i64 i, .int .i64 j, .slice xa xn xc, .slice ya yn yc, .string ⟨s.toArray⟩], .slice aa an ac, .slice ba' bn bc] _ _
  simp only at HW hqa hqb
  have HA0 := Lib.hid (D0.out.ba.ok D0.out.st.below)
  have HB0 := Lib.hid (D0.out.bb.ok D0.out.st.below)
  have hal : al.length = an := HA0.out.len
  have hbl : bl.length = bn := HB0.out.len
  have HAL := Lib.hid hal; have HBL := Lib.hid hbl
  clear hal hbl
  go_enter Tryz.func28, Tryz.ntmps28
  go_upto_region 1 with fail
  rw [← HW.out]
  obtain ⟨h, hh⟩ : ∃ h, h = w.heap.size := ⟨_, rfl⟩
  rw [← hh] at D0 ⊢
  clear HW
  have HH := Lib.hid hh; clear hh
  have ck : W.cell? ⟨h + 1, 0, none⟩ = some (.int .i64 k) := D0.out.ak.cell 0
  have c5 : W.cell? ⟨h + 1, 5, none⟩ = some (.string ⟨s.toArray⟩) := D0.out.ak.cell 5
  rw [HKK.out] at ck
  simp only at h32
  subst h32
  obtain ⟨T2, hT2⟩ : ∃ T2, T2 = (sealT T al bl).1 := ⟨_, rfl⟩
  have HT2 := Lib.hid hT2
  have hla : al.length ≤ maxLen := by have := HAL.out; simp only [maxLen]; omega
  have hlb : bl.length ≤ maxLen := by have := HBL.out; simp only [maxLen]; omega
  have HTG : Hid (TG2 T2 (n + 3)) := by show TG2 _ _; rw [hT2]; exact TG2.mk (tg.g.seal (by omega) al bl hla hlb) (tg.z.seal (by have := HAL.out; omega) (by have := HBL.out; omega))
  have HRF := Lib.hid (tSeal_any w0 A B aa ba' c L.length e0 ac bn bc T al bl W D0.out.st.rt (tg.g.le (by omega)) HA0.out HB0.out (by omega) (D0.out.st.k1 D0.out.bb))
  rw [← hT2] at HRF
  clear hT2 tg hla hlb
  go_upto_region 7 with (first
    | (refine wpList_load_row rfl 33 (.tmp 6) rfl h rfl 33 (ts A T.length c B L.length e0).toArray (0, 0) _ D0.out.xx Tryz.underlying33 rfl (size5 _ rfl) ?_)
    | (go_at_call 65; refine HRF.out.mono ?_; rintro e w1 ⟨A2, c2, A1, n1, c1, rfl, r1, t1, f1⟩; obtain ⟨st1, kd1⟩ := D0.out.st.rtab r1 t1; have D1 := Lib.hid (D0.out.step st1 kd1 (fun _ q => .inl q)); have S1 := Lib.hid (f1.old D0.out.kd.1); clear r1 t1 f1 st1 kd1)
    | (refine wpList_store_row rfl 33 (.tmp 17) (.tmp 49) rfl w1.heap.size (ts A2 T2.length c2 B L.length e0).toArray rfl rfl 33 xz.toArray (heap_alloc_new w1 _) (size5 _ rfl) rfl (oneT _ _ _ _ _ _) ?_))
  obtain ⟨b15, hb15⟩ : ∃ b15, b15 = w1.heap.size := ⟨_, rfl⟩
  rw [← hb15]
  obtain ⟨W2, hW2⟩ : ∃ W2, W2 = (w1.alloc (.cells #[.bool false, .slice none 0 0, .int .i64 0, .slice none 0 0, .slice none 0 0] 33)).setRow b15 (ts A2 T2.length c2 B L.length e0).toArray := ⟨_, rfl⟩
  have hz : Xk (w1.alloc (.cells #[.bool false, .slice none 0 0, .int .i64 0, .slice none 0 0, .slice none 0 0] 33)) b15 xz := by rw [hb15]; exact heap_alloc_new w1 _
  have g12 : Gr w1 W2 := by rw [hW2]; exact byRow_below (Gr.alloc _ _) (Nat.le_of_eq hb15.symm) _
  have HB : Hid (Xk W2 b15 (ts A2 T2.length c2 B L.length e0)) := by rw [hW2]; exact hz.row _
  have D2 := Lib.hid (D1.out.mono g12)
  have S2 := Lib.hid (S1.out.mono g12)
  rw [← hW2]
  clear hW2 hz g12 hb15 S1 D1 ck c5
  refine wp_region_pre (by kernel_rfl) (fun w' => Xk w' b15 (ts A2 T2.length c2 B L.length e0)) (fun q => q == 5) (fun q => q == 10) [0, 1, 2, 4, 5] 6 (by kernel_rfl) (by kernel_rfl) (by kernel_rfl) ((Gr.drew _).blk HB.out) ?_
  refine wpPre_e rfl rfl ?_
  apply Exists.intro
  refine ⟨fun wq hq => ?_, ?_⟩
  · clear hq
    unfold plainAt
    go_simp
    first | exact rfl | exact ⟨rfl, rfl⟩
  go_simp
  refine wpPre_e rfl rfl ?_
  apply Exists.intro
  refine ⟨fun wq hq => ?_, ?_⟩
  · clear hq
    unfold plainAt
    go_simp
    first | exact rfl | exact ⟨rfl, rfl⟩
  go_simp
  refine wpPre_e rfl rfl ?_
  apply Exists.intro
  refine ⟨fun wq hq => ?_, ?_⟩
  · clear hq
    unfold plainAt
    go_simp
    first | exact rfl | exact ⟨rfl, rfl⟩
  go_simp
  refine wpPre_e rfl rfl ?_
  apply Exists.intro
  refine ⟨fun wq hq => ?_, ?_⟩
  · clear hq
    unfold plainAt
    go_simp
    first | exact rfl | exact ⟨rfl, rfl⟩
  go_simp
  refine wpPre_e rfl rfl ⟨.agg (ts A2 T2.length c2 B L.length e0).toArray, fun wq hq => plainRow 33 (.tmp 17) rfl b15 0 rfl _ _ (Xk.whole (hq rfl)) Tryz.underlying33 rfl (size5c _ rfl), ?_⟩
  go_simp
  refine wpPre_nil ?_
  obtain ⟨w3, hw3⟩ : ∃ w3, w3 = W2.drew := ⟨_, rfl⟩
  have D3 := Lib.hid (D2.out.mono (Gr.drew W2)); have HB3 := Lib.hid (Gr.blk (Gr.drew W2) HB.out); have S3 := Lib.hid (S2.out.mono (Gr.drew W2))
  rw [← hw3] at D3 HB3 S3 ⊢
  clear hw3 D2 HB S2
  have HDR := Lib.hid (SymS.seal3 D3.out.st.sy (by omega) aa ba' 32 ac bn bc al bl (D3.out.ba.ok D3.out.st.below) (D3.out.bb.ok D3.out.st.below) rfl (by omega) (D3.out.st.k3 D3.out.bb))
  refine wpRest_one (i := 3) (by kernel_rfl) rfl rfl ?_
  intro K hK
  go_simp
  go_at_call 18
  refine HDR.out.mono ?_
  rintro e w4 ⟨⟨v4, rfl, o4⟩, s4, f4, k4⟩
  rw [HBL.out] at o4
  obtain ⟨A4, c4, rfl, sl4⟩ := o4.slice
  have s4' : SymS w0 w4 p g bm bs T2 := by rw [HT2.out]; exact s4
  obtain ⟨st4, kd4⟩ := D3.out.st.tab s4' k4
  have D4 := Lib.hid (D3.out.step st4 kd4 (fun _ q => .inl q))
  have HB4 := Lib.hid (D3.out.st.keepX kd4 HB3.out)
  have HR4 := Lib.hid (S3.out.ku (D3.out.st.ku kd4))
  have HG4 := Lib.hid sl4
  refine hK _ _ (fun _ => HB4.out) ?_
  clear hK o4 s4 s4' k4 f4 st4 kd4 sl4 S3 HB3 D3
  go_simp
  have HLN : Hid (n1 ≤ bn + 48) := by have h1 : (sealB T al bl).length = n1 := Bs.len HR4.out.b; rw [show (sealB T al bl).length = bl.length + 48 from padL_length _ _, HBL.out] at h1; show n1 ≤ _; omega
  refine wpRest_one (i := 6) (by kernel_rfl) rfl rfl ?_
  intro K hK
  go_simp
  refine hK _ _ (fun _ => HB4.out) ?_
  clear hK
  go_simp
  refine wpRest_one (i := 7) (by kernel_rfl) rfl rfl ?_
  intro K hK
  go_simp
  refine hK _ _ (fun _ => HB4.out) ?_
  clear hK
  go_simp
  refine wpRest_one (i := 8) (by kernel_rfl) rfl rfl ?_
  intro K hK
  go_simp
  refine hK _ _ (fun _ => HB4.out) ?_
  clear hK
  go_simp
  refine wpRest_one (i := 9) (by kernel_rfl) rfl rfl ?_
  intro K hK
  go_simp
  refine hK _ _ (fun _ => HB4.out) ?_
  clear hK
  go_simp
  refine wpRest_one (i := 10) (by kernel_rfl) rfl rfl ?_
  intro K hK
  refine wp_store_row 33 (.tmp 14) (.tmp 56) rfl (h + 2) (ts A2 T2.length c2 B L.length e0).toArray rfl rfl 33 xz.toArray D4.out.r (size5 _ rfl) rfl (oneT _ _ _ _ _ _) ?_
  obtain ⟨hx, hg, hr, hre, ht⟩ := D4.out.ended (BRow.mk A4 (bn + 48) c4 (sealB T al bl)) ⟨A1, n1, c1, sealB T al bl⟩ HG4.out HR4.out (ts A2 T2.length c2 B L.length e0)
  have HX5 := Lib.hid hx; have HG5 := Lib.hid hg; have HR5 := Lib.hid hr; have HE5 := Lib.hid hre; have HT5 := Lib.hid ht
  clear hx hg hr hre ht
  refine hK _ _ (fun q => by cases q) ?_
  clear hK
  go_simp
  refine wpRest_nil (by kernel_rfl) ?_
  go_wp2_with fail
  exact bodyPost_ret (v := .tuple #[(BRow.mk A4 (bn + 48) c4 (sealB T al bl)).v, .slice A1 n1 c1, .bool true, .bool true, .agg (ts A2 T2.length c2 B L.length e0).toArray]) (results_doT Tryz.results28 _ _ (h + 2) (ts A2 T2.length c2 B L.length e0) rfl rfl HX5.out) rfl ⟨BRow.mk A4 (bn + 48) c4 (sealB T al bl), BRow.mk A1 n1 c1 (sealB T al bl), true, A2, c2, B, e0, T2, L, rfl, rfl, HG5.out, HR5.out, HLN.out, HE5.out, HT5.out, D4.out.ow, HTG.out, Nat.le_succ _⟩
set_option maxRecDepth 100000 in
set_option maxHeartbeats 2000000 in
theorem actT_seal_not (i j : Int) (x y : BRow) (s : List UInt8) (a b : BRow) (w : World) (st : ST w0 p g bm bs A c B e0 T L T (L.map (·.l)) w) (ba : RowK w0 w a) (bb : RowK w0 w b) (tg : TG2 T n) (hn : n ≤ 800) (hL : L.length ≤ 800) (hqa : a.n ≤ 20000) (hqb : b.n ≤ 20000) (h32 : a.n ≠ 32) :
    Calls Tryz.prog 28 #[.pointer (some ⟨p, 0, none⟩), tv A T.length c B L.length e0, xact 1 i j x y s, a.v, b.v] w (RetDoT w0 w p g bm bs (.slice B L.length e0) b T L n) := by
  obtain ⟨k, hk⟩ : ∃ k : Int, k = 1 := ⟨_, rfl⟩
  rw [← hk]
  have HKK := Lib.hid hk; clear hk
  have hTl : T.length ≤ 800 := Nat.le_trans tg.g.l hn
  have D0 := Lib.hid (dwT_s k i j x y s st ba bb)
  obtain ⟨W, hW⟩ : ∃ W, W = dwT w A T.length c B L.length e0 k i j x y s := ⟨_, rfl⟩
  rw [← hW] at D0
  unfold dwT at hW
  have HW := Lib.hid hW
  clear hW st ba bb
  obtain ⟨xa, xn, xc, xl⟩ := x
  obtain ⟨ya, yn, yc, yl⟩ := y
  obtain ⟨aa, an, ac, al⟩ := a
  obtain ⟨ba', bn, bc, bl⟩ := b
  show Calls _ _ #[.pointer (some ⟨p, 0, none⟩), .agg #[.bool false, .slice none 0 0, .int .i64 0, .slice A T.length c, .slice B L.length e0], .agg #[.int .i64 k, .int .i64 i, .int .i64 j, .slice xa xn xc, .slice ya yn yc, .string ⟨s.toArray⟩], .slice aa an ac, .slice ba' bn bc] _ _
  simp only at HW hqa hqb
  have HA0 := Lib.hid (D0.out.ba.ok D0.out.st.below)
  have HB0 := Lib.hid (D0.out.bb.ok D0.out.st.below)
  have hal : al.length = an := HA0.out.len
  have hbl : bl.length = bn := HB0.out.len
  have HAL := Lib.hid hal; have HBL := Lib.hid hbl
  clear hal hbl
  go_enter Tryz.func28, Tryz.ntmps28
  go_upto_region 1 with fail
  rw [← HW.out]
  obtain ⟨h, hh⟩ : ∃ h, h = w.heap.size := ⟨_, rfl⟩
  rw [← hh] at D0 ⊢
  clear HW
  have HH := Lib.hid hh; clear hh
  have ck : W.cell? ⟨h + 1, 0, none⟩ = some (.int .i64 k) := D0.out.ak.cell 0
  have c5 : W.cell? ⟨h + 1, 5, none⟩ = some (.string ⟨s.toArray⟩) := D0.out.ak.cell 5
  rw [HKK.out] at ck
  simp only at h32
  have q1 : an ≤ ac := Sl.cap HA0.out
  have q2 : ac ≤ 9223372036854775807 := Sl.max HA0.out
  obtain ⟨T2, hT2⟩ : ∃ T2, T2 = T := ⟨_, rfl⟩
  have HT2 := Lib.hid hT2
  have HTG : Hid (TG2 T (n + 3)) := tg.le (by omega)
  have HRF := Lib.hid (tSeal_not A B aa ba' T.length c L.length e0 an ac bn bc W h32 q1 q2)
  clear hT2 tg HT2 T2
  go_upto_region 7 with (first
    | (refine wpList_load_row rfl 33 (.tmp 6) rfl h rfl 33 (ts A T.length c B L.length e0).toArray (0, 0) _ D0.out.xx Tryz.underlying33 rfl (size5 _ rfl) ?_)
    | (go_at_call 65; refine HRF.out.mono ?_; rintro e w1 ⟨rfl, g1⟩; have D1 := Lib.hid (D0.out.mono g1); have S1 := Lib.hid (FB.nil w w1); clear g1)
    | (refine wpList_store_row rfl 33 (.tmp 17) (.tmp 49) rfl w1.heap.size (ts A T.length c B L.length e0).toArray rfl rfl 33 xz.toArray (heap_alloc_new w1 _) (size5 _ rfl) rfl (oneT _ _ _ _ _ _) ?_))
  obtain ⟨b15, hb15⟩ : ∃ b15, b15 = w1.heap.size := ⟨_, rfl⟩
  rw [← hb15]
  obtain ⟨W2, hW2⟩ : ∃ W2, W2 = (w1.alloc (.cells #[.bool false, .slice none 0 0, .int .i64 0, .slice none 0 0, .slice none 0 0] 33)).setRow b15 (ts A T.length c B L.length e0).toArray := ⟨_, rfl⟩
  have hz : Xk (w1.alloc (.cells #[.bool false, .slice none 0 0, .int .i64 0, .slice none 0 0, .slice none 0 0] 33)) b15 xz := by rw [hb15]; exact heap_alloc_new w1 _
  have g12 : Gr w1 W2 := by rw [hW2]; exact byRow_below (Gr.alloc _ _) (Nat.le_of_eq hb15.symm) _
  have HB : Hid (Xk W2 b15 (ts A T.length c B L.length e0)) := by rw [hW2]; exact hz.row _
  have D2 := Lib.hid (D1.out.mono g12)
  have S2 := Lib.hid (S1.out.mono g12)
  rw [← hW2]
  clear hW2 hz g12 hb15 S1 D1 ck c5
  refine wp_region_pre (by kernel_rfl) (fun w' => Xk w' b15 (ts A T.length c B L.length e0)) (fun q => q == 5) (fun q => q == 10) [0, 1, 2, 4, 5] 6 (by kernel_rfl) (by kernel_rfl) (by kernel_rfl) ((Gr.drew _).blk HB.out) ?_
  refine wpPre_e rfl rfl ?_
  apply Exists.intro
  refine ⟨fun wq hq => ?_, ?_⟩
  · clear hq
    unfold plainAt
    go_simp
    first | exact rfl | exact ⟨rfl, rfl⟩
  go_simp
  refine wpPre_e rfl rfl ?_
  apply Exists.intro
  refine ⟨fun wq hq => ?_, ?_⟩
  · clear hq
    unfold plainAt
    go_simp
    first | exact rfl | exact ⟨rfl, rfl⟩
  go_simp
  refine wpPre_e rfl rfl ?_
  apply Exists.intro
  refine ⟨fun wq hq => ?_, ?_⟩
  · clear hq
    unfold plainAt
    go_simp
    first | exact rfl | exact ⟨rfl, rfl⟩
  go_simp
  refine wpPre_e rfl rfl ?_
  apply Exists.intro
  refine ⟨fun wq hq => ?_, ?_⟩
  · clear hq
    unfold plainAt
    go_simp
    first | exact rfl | exact ⟨rfl, rfl⟩
  go_simp
  refine wpPre_e rfl rfl ⟨.agg (ts A T.length c B L.length e0).toArray, fun wq hq => plainRow 33 (.tmp 17) rfl b15 0 rfl _ _ (Xk.whole (hq rfl)) Tryz.underlying33 rfl (size5c _ rfl), ?_⟩
  go_simp
  refine wpPre_nil ?_
  obtain ⟨w3, hw3⟩ : ∃ w3, w3 = W2.drew := ⟨_, rfl⟩
  have D3 := Lib.hid (D2.out.mono (Gr.drew W2)); have HB3 := Lib.hid (Gr.blk (Gr.drew W2) HB.out); have S3 := Lib.hid (S2.out.mono (Gr.drew W2))
  rw [← hw3] at D3 HB3 S3 ⊢
  clear hw3 D2 HB S2
  have HDR := Lib.hid (SymS.seal_not D3.out.st.sy aa ba' an ac bn bc h32 q1 q2)
  refine wpRest_one (i := 3) (by kernel_rfl) rfl rfl ?_
  intro K hK
  go_simp
  go_at_call 18
  refine HDR.out.mono ?_
  rintro e w4 ⟨rfl, h4⟩
  rw [← h4]
  clear h4 w4
  have D4 := D3
  have HB4 := HB3
  have HG4 : Hid (BRow.ok w3 ⟨none, 0, 0, []⟩) := Sl.nil _ _
  have HR4 := S3
  refine hK _ _ (fun _ => HB4.out) ?_
  clear hK HDR
  go_simp
  have HLN : Hid (0 ≤ bn + 48) := Nat.zero_le _
  refine wpRest_one (i := 6) (by kernel_rfl) rfl rfl ?_
  intro K hK
  go_simp
  refine hK _ _ (fun _ => HB4.out) ?_
  clear hK
  go_simp
  refine wpRest_one (i := 7) (by kernel_rfl) rfl rfl ?_
  intro K hK
  go_simp
  refine hK _ _ (fun _ => HB4.out) ?_
  clear hK
  go_simp
  refine wpRest_one (i := 8) (by kernel_rfl) rfl rfl ?_
  intro K hK
  go_simp
  refine hK _ _ (fun _ => HB4.out) ?_
  clear hK
  go_simp
  refine wpRest_one (i := 9) (by kernel_rfl) rfl rfl ?_
  intro K hK
  go_simp
  refine hK _ _ (fun _ => HB4.out) ?_
  clear hK
  go_simp
  refine wpRest_one (i := 10) (by kernel_rfl) rfl rfl ?_
  intro K hK
  refine wp_store_row 33 (.tmp 14) (.tmp 56) rfl (h + 2) (ts A T.length c B L.length e0).toArray rfl rfl 33 xz.toArray D4.out.r (size5 _ rfl) rfl (oneT _ _ _ _ _ _) ?_
  obtain ⟨hx, hg, hr, hre, ht⟩ := D4.out.ended ⟨none, 0, 0, []⟩ ⟨none, 0, 0, []⟩ HG4.out HR4.out (ts A T.length c B L.length e0)
  have HX5 := Lib.hid hx; have HG5 := Lib.hid hg; have HR5 := Lib.hid hr; have HE5 := Lib.hid hre; have HT5 := Lib.hid ht
  clear hx hg hr hre ht
  refine hK _ _ (fun q => by cases q) ?_
  clear hK
  go_simp
  refine wpRest_nil (by kernel_rfl) ?_
  go_wp2_with fail
  exact bodyPost_ret (v := .tuple #[.slice none 0 0, .slice none 0 0, .bool true, .bool true, .agg (ts A T.length c B L.length e0).toArray]) (results_doT Tryz.results28 _ _ (h + 2) (ts A T.length c B L.length e0) rfl rfl HX5.out) rfl ⟨BRow.mk none 0 0 [], BRow.mk none 0 0 [], true, A, c, B, e0, T, L, rfl, rfl, HG5.out, HR5.out, HLN.out, HE5.out, HT5.out, D4.out.ow, HTG.out, Nat.le_succ _⟩
end
end Go.Proofs.YtcfbbgbjlgonpaaGreatDoor
