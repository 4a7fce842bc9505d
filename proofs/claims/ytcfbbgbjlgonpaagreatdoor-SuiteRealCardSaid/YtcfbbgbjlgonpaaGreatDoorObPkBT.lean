/- Own texts of this claim, one behind the other. No condition. -/
import Derived.Test.YtcfbbgbjlgonpaaGreatDoorObPkBR

/- An act on a real suite, and on the document's: both tell the same. No condition. -/
namespace Go.Proofs.YtcfbbgbjlgonpaaGreatDoor
open Go.RowKit
set_option linter.unusedVariables false
set_option linter.unusedSimpArgs false
section
variable {g p : Nat} {A0 : Option Addr} {n0 c0 : Nat} {seed : List UInt8} {SA : Option Addr} {sn sc d : Nat}
set_option maxRecDepth 100000 in
set_option maxHeartbeats 2000000 in
theorem do_derive (i j : Int) (x y : BRow) (s : List UInt8) (a b : BRow) (w : World) (re : RealW w g p A0 n0 c0 seed d) (sd : Bs w SA sn sc seed) (ba : a.ok w) (bb : b.ok w) (sk : ShaK w) (hsn : sn ≤ 1000) (hn0 : n0 ≤ 1000) (hd : d < 50) (hqa : a.n ≤ 20000) (hqb : b.n ≤ 20000) (hsl : s.length ≤ 5000) :
    Calls Tryz.prog 28 #[.pointer (some ⟨g, 0, none⟩), xv SA sn sc d, xact 3 i j x y s, a.v, b.v] w (RetDo w g p A0 n0 c0 seed SA sn sc d b) := by
  obtain ⟨k, hk⟩ : ∃ k : Int, k = 3 := ⟨_, rfl⟩
  rw [← hk]
  have HKK := Lib.hid hk; clear hk
  have D0 := Lib.hid (dw_s k i j x y s re sd ba bb sk)
  obtain ⟨W, hW⟩ : ∃ W, W = dw w SA sn sc d k i j x y s := ⟨_, rfl⟩
  rw [← hW] at D0
  unfold dw at hW
  have HW := Lib.hid hW
  clear hW re sd ba bb sk
  obtain ⟨xa, xn, xc, xl⟩ := x
  obtain ⟨ya, yn, yc, yl⟩ := y
  obtain ⟨aa, an, ac, al⟩ := a
  obtain ⟨ba', bn, bc, bl⟩ := b
  show Calls _ _ #[.pointer (some ⟨g, 0, none⟩), .agg #[.bool true, .slice SA sn sc, .int .i64 (d : Int), .slice none 0 0, .slice none 0 0], .agg #[.int .i64 k, .int .i64 i, .int .i64 j, .slice xa xn xc, .slice ya yn yc, .string ⟨s.toArray⟩], .slice aa an ac, .slice ba' bn bc] _ _
  simp only at HW hqa hqb
  go_enter Tryz.func28, Tryz.ntmps28
  go_upto_region 1 with fail
  rw [← HW.out]
  obtain ⟨h, hh⟩ : ∃ h, h = w.heap.size := ⟨_, rfl⟩
  rw [← hh] at D0 ⊢
  clear HW
  have HH := Lib.hid hh; clear hh
  have ck : W.cell? ⟨h + 1, 0, none⟩ = some (.int .i64 k) := D0.out.ak.cell 0
  have c5 : W.cell? ⟨h + 1, 5, none⟩ = some (.string ⟨s.toArray⟩) := D0.out.ak.cell 5
  rw [HKK.out] at ck
  go_upto_region 14 with (first
    | (refine wpList_load_row rfl 33 (.tmp 6) rfl h rfl 33 (xs SA sn sc d).toArray (0, 0) _ D0.out.xx Tryz.underlying33 rfl (sizeX _ _ _ _) ?_)
    | (go_at_call 67; refine (xDerive_any SA aa sn sc d an ac al s W D0.out.ba (by omega) hsl).mono ?_; rintro e w1 ⟨A1, n1, c1, rfl, s1, g1, f1⟩; have F1 : Hid (FreshR w A1 n1) := f1.old D0.out.t.size; clear f1; have S1 := Lib.hid s1; have D1 := Lib.hid (D0.out.mono g1); clear s1 g1)
    | (refine wpList_store_row rfl 33 (.tmp 23) (.tmp 86) rfl w1.heap.size (xs SA sn sc (d)).toArray rfl rfl 33 xz.toArray (heap_alloc_new w1 _) (sizeX _ _ _ _) rfl (oneX _ _ _ _) ?_))
  obtain ⟨b15, hb15⟩ : ∃ b15, b15 = w1.heap.size := ⟨_, rfl⟩
  rw [← hb15]
  obtain ⟨W2, hW2⟩ : ∃ W2, W2 = (w1.alloc (.cells #[.bool false, .slice none 0 0, .int .i64 0, .slice none 0 0, .slice none 0 0] 33)).setRow b15 (xs SA sn sc (d)).toArray := ⟨_, rfl⟩
  have hz : Xk (w1.alloc (.cells #[.bool false, .slice none 0 0, .int .i64 0, .slice none 0 0, .slice none 0 0] 33)) b15 xz := by rw [hb15]; exact heap_alloc_new w1 _
  have g12 : Gr w1 W2 := by rw [hW2]; exact byRow_below (Gr.alloc _ _) (Nat.le_of_eq hb15.symm) _
  have HB : Hid (Xk W2 b15 (xs SA sn sc (d))) := by rw [hW2]; exact hz.row _
  have D2 := Lib.hid (D1.out.mono g12)
  have S2 := Lib.hid (Sl.mono S1.out g12)
  have HBP : Hid (b15 ≠ p) := by have h1 : p < w1.heap.size := D1.out.re.src.1.lt; show _ ≠ _; omega
  rw [← hW2]
  clear hW2 hz g12 hb15 S1 D1 ck c5
  refine wp_region_pre (by kernel_rfl) (fun w' => Xk w' b15 (xs SA sn sc d) ∧ w'.cell? ⟨h + 1, 5, none⟩ = some (.string ⟨s.toArray⟩)) (fun q => q == 3 || q == 6) (fun q => q == 11) [0, 1, 2, 5, 3, 6] 6 (by kernel_rfl) (by kernel_rfl) (by kernel_rfl) ⟨(Gr.drew _).blk HB.out, D2.out.ak.cell 5⟩ ?_
  refine wpPre_e rfl rfl ?_
  apply Exists.intro
  refine ⟨fun wq hq => ?_, ?_⟩
  · clear hq
    unfold plainAt
    go_simp
    first | exact rfl | exact ⟨rfl, rfl⟩
  go_simp
  refine wpPre_e rfl rfl ?_
  apply Exists.intro
  refine ⟨fun wq hq => ?_, ?_⟩
  · clear hq
    unfold plainAt
    go_simp
    first | exact rfl | exact ⟨rfl, rfl⟩
  go_simp
  refine wpPre_e rfl rfl ?_
  apply Exists.intro
  refine ⟨fun wq hq => ?_, ?_⟩
  · clear hq
    unfold plainAt
    go_simp
    first | exact rfl | exact ⟨rfl, rfl⟩
  go_simp
  refine wpPre_e rfl rfl ?_
  apply Exists.intro
  refine ⟨fun wq hq => ?_, ?_⟩
  · clear hq
    unfold plainAt
    go_simp
    first | exact rfl | exact ⟨rfl, rfl⟩
  go_simp
  refine wpPre_e rfl rfl ?_
  apply Exists.intro
  refine ⟨fun wq hq => ?_, ?_⟩
  · replace hq := hq rfl
    have c5' := hq.2
    unfold plainAt
    go_simp
    first | exact rfl | exact ⟨rfl, rfl⟩
  go_simp
  refine wpPre_e rfl rfl ⟨.agg (xs SA sn sc d).toArray, fun wq hq => plainRow 33 (.tmp 23) rfl b15 0 rfl _ _ (Xk.whole (hq rfl).1) Tryz.underlying33 rfl (sizeXc _ _ _ _), ?_⟩
  go_simp
  refine wpPre_nil ?_
  obtain ⟨w3, hw3⟩ : ∃ w3, w3 = W2.drew := ⟨_, rfl⟩
  have D3 : Hid (DS w g p A0 n0 c0 seed SA sn sc d k i j ⟨xa, xn, xc, xl⟩ ⟨ya, yn, yc, yl⟩ s ⟨aa, an, ac, al⟩ ⟨ba', bn, bc, bl⟩ h d xz w3) := by rw [hw3]; exact D2.out.mono (Gr.drew _)
  have HB3 : Hid (Xk w3 b15 (xs SA sn sc d)) := by rw [hw3]; exact (Gr.drew _).blk HB.out
  have S3 : Hid (BRow.ok w3 ⟨A1, n1, c1, deriveL al s⟩) := by rw [hw3]; exact Sl.mono S2.out (Gr.drew _)
  rw [← hw3]
  clear hw3 D2 HB S2
  have HDR := Lib.hid (sDeriveO_any g aa an ac al s w3 D3.out.re.real D3.out.ba (by omega) hsl D3.out.sk)
  refine wpRest_one (i := 4) (by kernel_rfl) rfl rfl ?_
  intro K hK
  go_simp
  go_at_call 23
  refine HDR.out.mono ?_
  rintro e w4 ⟨A4, c4, _, rfl, s4, o4⟩
  have g4 := o4.below
  have D4 := Lib.hid (D3.out.mono g4)
  have HB4 : Hid (Xk w4 b15 (xs SA sn sc d) ∧ w4.cell? ⟨h + 1, 5, none⟩ = some (.string ⟨s.toArray⟩)) := ⟨Gr.blk g4 HB3.out, D4.out.ak.cell 5⟩
  have HG4 : Hid (BRow.ok w4 ⟨A4, _, c4, deriveL al s⟩) := s4
  have HR4 : Hid (BRow.ok w4 ⟨A1, n1, c1, deriveL al s⟩) := Sl.mono S3.out g4
  refine hK _ _ (fun _ => HB4.out) ?_
  clear hK s4 g4 o4 HDR S3 HB3 D3
  go_simp
  have HLN : Hid (n1 ≤ bn + 48) := by have h1 : (deriveL al s).length = n1 := Bs.len HR4.out; rw [deriveL_len] at h1; show n1 ≤ _; omega
  refine wpRest_one (i := 7) (by kernel_rfl) rfl rfl ?_
  intro K hK
  go_simp
  refine hK _ _ (fun _ => HB4.out) ?_
  clear hK
  go_simp
  refine wpRest_one (i := 8) (by kernel_rfl) rfl rfl ?_
  intro K hK
  go_simp
  refine hK _ _ (fun _ => HB4.out) ?_
  clear hK
  go_simp
  refine wpRest_one (i := 9) (by kernel_rfl) rfl rfl ?_
  intro K hK
  go_simp
  refine hK _ _ (fun _ => HB4.out) ?_
  clear hK
  go_simp
  refine wpRest_one (i := 10) (by kernel_rfl) rfl rfl ?_
  intro K hK
  go_simp
  refine hK _ _ (fun _ => HB4.out) ?_
  clear hK
  go_simp
  refine wpRest_one (i := 11) (by kernel_rfl) rfl rfl ?_
  intro K hK
  refine wp_store_row 33 (.tmp 14) (.tmp 94) rfl (h + 2) (xs SA sn sc (d)).toArray rfl rfl 33 xz.toArray D4.out.r (sizeX _ _ _ _) rfl (oneX _ _ _ _) ?_
  obtain ⟨hx, hg, hr, hre, ht⟩ := D4.out.ended (d) (BRow.mk A4 (deriveL al s).length c4 (deriveL al s)) ⟨A1, n1, c1, deriveL al s⟩ HG4.out HR4.out
  have HX5 := Lib.hid hx; have HG5 := Lib.hid hg; have HR5 := Lib.hid hr; have HE5 := Lib.hid hre; have HT5 := Lib.hid ht
  clear hx hg hr hre ht
  refine hK _ _ (fun q => by cases q) ?_
  clear hK
  go_simp
  refine wpRest_nil (by kernel_rfl) ?_
  go_wp2_with fail
  exact bodyPost_ret (v := .tuple #[(BRow.mk A4 (deriveL al s).length c4 (deriveL al s)).v, .slice A1 n1 c1, .bool true, .bool true, xv SA sn sc (d)]) (results_do Tryz.results28 _ _ (h + 2) SA sn sc (d) rfl HX5.out) rfl ⟨BRow.mk A4 (deriveL al s).length c4 (deriveL al s), BRow.mk A1 n1 c1 (deriveL al s), true, d, rfl, rfl, HG5.out, HR5.out, HLN.out, by omega, HE5.out, HT5.out, by omega, F1.out⟩
set_option maxRecDepth 100000 in
set_option maxHeartbeats 2000000 in
theorem do_open_not (i j : Int) (x y : BRow) (s : List UInt8) (a b : BRow) (w : World) (re : RealW w g p A0 n0 c0 seed d) (sd : Bs w SA sn sc seed) (ba : a.ok w) (bb : b.ok w) (sk : ShaK w) (hsn : sn ≤ 1000) (hn0 : n0 ≤ 1000) (hd : d < 50) (hqa : a.n ≤ 20000) (hqb : b.n ≤ 20000) (h48 : a.n ≠ 32 ∨ b.n < 48) :
    Calls Tryz.prog 28 #[.pointer (some ⟨g, 0, none⟩), xv SA sn sc d, xact 2 i j x y s, a.v, b.v] w (RetDo w g p A0 n0 c0 seed SA sn sc d b) := by
  obtain ⟨k, hk⟩ : ∃ k : Int, k = 2 := ⟨_, rfl⟩
  rw [← hk]
  have HKK := Lib.hid hk; clear hk
  have D0 := Lib.hid (dw_s k i j x y s re sd ba bb sk)
  obtain ⟨W, hW⟩ : ∃ W, W = dw w SA sn sc d k i j x y s := ⟨_, rfl⟩
  rw [← hW] at D0
  unfold dw at hW
  have HW := Lib.hid hW
  clear hW re sd ba bb sk
  obtain ⟨xa, xn, xc, xl⟩ := x
  obtain ⟨ya, yn, yc, yl⟩ := y
  obtain ⟨aa, an, ac, al⟩ := a
  obtain ⟨ba', bn, bc, bl⟩ := b
  show Calls _ _ #[.pointer (some ⟨g, 0, none⟩), .agg #[.bool true, .slice SA sn sc, .int .i64 (d : Int), .slice none 0 0, .slice none 0 0], .agg #[.int .i64 k, .int .i64 i, .int .i64 j, .slice xa xn xc, .slice ya yn yc, .string ⟨s.toArray⟩], .slice aa an ac, .slice ba' bn bc] _ _
  simp only at HW hqa hqb
  go_enter Tryz.func28, Tryz.ntmps28
  go_upto_region 1 with fail
  rw [← HW.out]
  obtain ⟨h, hh⟩ : ∃ h, h = w.heap.size := ⟨_, rfl⟩
  rw [← hh] at D0 ⊢
  clear HW
  have HH := Lib.hid hh; clear hh
  have ck : W.cell? ⟨h + 1, 0, none⟩ = some (.int .i64 k) := D0.out.ak.cell 0
  have c5 : W.cell? ⟨h + 1, 5, none⟩ = some (.string ⟨s.toArray⟩) := D0.out.ak.cell 5
  rw [HKK.out] at ck
  simp only at h48
  have q1 : an ≤ ac := Sl.cap D0.out.ba
  have q2 : ac ≤ 9223372036854775807 := Sl.max D0.out.ba
  have q3 : bn ≤ bc := Sl.cap D0.out.bb
  have q4 : bc ≤ 9223372036854775807 := Sl.max D0.out.bb
  have HDR := Lib.hid (fun w1 (e1 : RealS w1 g) => realOpen_not g aa ba' an ac bn bc w1 e1 h48 q1 q2 q3 q4)
  have HXO := Lib.hid (xOpen_not SA aa ba' sn sc d an ac bn bc W h48 q1 q2 q3 q4)
  clear h48
  go_upto_region 10 with (first
    | (refine wpList_load_row rfl 33 (.tmp 6) rfl h rfl 33 (xs SA sn sc d).toArray (0, 0) _ D0.out.xx Tryz.underlying33 rfl (sizeX _ _ _ _) ?_)
    | (go_at_call 66; refine HXO.out.mono ?_; rintro e w1 ⟨rfl, g1⟩; have D1 := Lib.hid (D0.out.mono g1); clear g1 ck c5))
  go_upto_region 11 with (go_at_call 19; refine (HDR.out w1 D1.out.re.real).mono ?_; rintro e w3 ⟨rfl, h3⟩; rw [← h3]; clear h3 w3)
  obtain ⟨w3, hw3⟩ : ∃ w3, w3 = w1 := ⟨_, rfl⟩
  rw [← hw3] at D1 ⊢
  clear hw3
  have D3 := D1
  have S3g : Hid (BRow.ok w3 ⟨none, 0, 0, []⟩) := Sl.nil _ _
  have S3r : Hid (BRow.ok w3 ⟨none, 0, 0, []⟩) := Sl.nil _ _
  have HLN : Hid (0 ≤ bn + 48) := Nat.zero_le _
  have HF : Hid (FreshR w none 0) := FreshR.nil w
  clear D1 HDR HXO
  go_upto_region 11 with fail
  refine wp_region_pre (by kernel_rfl) (fun w' => Xk w' h (xs SA sn sc d)) (fun q => q == 4) (fun q => q == 9) [0, 1, 2, 3, 4] 5 (by kernel_rfl) (by kernel_rfl) (by kernel_rfl) ((Gr.drew _).blk D3.out.xx) ?_
  refine wpPre_e rfl rfl ?_
  apply Exists.intro
  refine ⟨fun wq hq => ?_, ?_⟩
  · clear hq
    unfold plainAt
    go_simp
    first | exact rfl | exact ⟨rfl, rfl⟩
  go_simp
  refine wpPre_e rfl rfl ?_
  apply Exists.intro
  refine ⟨fun wq hq => ?_, ?_⟩
  · clear hq
    unfold plainAt
    go_simp
    first | exact rfl | exact ⟨rfl, rfl⟩
  go_simp
  refine wpPre_e rfl rfl ?_
  apply Exists.intro
  refine ⟨fun wq hq => ?_, ?_⟩
  · clear hq
    unfold plainAt
    go_simp
    first | exact rfl | exact ⟨rfl, rfl⟩
  go_simp
  refine wpPre_e rfl rfl ?_
  apply Exists.intro
  refine ⟨fun wq hq => ?_, ?_⟩
  · clear hq
    unfold plainAt
    go_simp
    first | exact rfl | exact ⟨rfl, rfl⟩
  go_simp
  refine wpPre_e rfl rfl ⟨.agg (xs SA sn sc d).toArray, fun wq hq => plainRow 33 (.tmp 6) rfl h 0 rfl _ _ (Xk.whole (hq rfl)) Tryz.underlying33 rfl (sizeXc _ _ _ _), ?_⟩
  go_simp
  refine wpPre_nil ?_
  obtain ⟨w4, hw4⟩ : ∃ w4, w4 = w3.drew := ⟨_, rfl⟩
  have D4 : Hid (DS w g p A0 n0 c0 seed SA sn sc d k i j ⟨xa, xn, xc, xl⟩ ⟨ya, yn, yc, yl⟩ s ⟨aa, an, ac, al⟩ ⟨ba', bn, bc, bl⟩ h d xz w4) := by rw [hw4]; exact D3.out.mono (Gr.drew _)
  have HX4 : Hid (Xk w4 h (xs SA sn sc d)) := D4.out.xx
  have HG4 : Hid (BRow.ok w4 (BRow.mk none 0 0 [])) := by rw [hw4]; exact Sl.mono S3g.out (Gr.drew _)
  have HR4 : Hid (BRow.ok w4 (BRow.mk none 0 0 [])) := by rw [hw4]; exact Sl.mono S3r.out (Gr.drew _)
  rw [← hw4]
  clear hw4 D3 S3g S3r
  refine wpRest_one (i := 5) (by kernel_rfl) rfl rfl ?_
  intro K hK
  go_simp
  refine hK _ _ (fun _ => HX4.out) ?_
  clear hK
  go_simp
  refine wpRest_one (i := 6) (by kernel_rfl) rfl rfl ?_
  intro K hK
  go_simp
  refine hK _ _ (fun _ => HX4.out) ?_
  clear hK
  go_simp
  refine wpRest_one (i := 7) (by kernel_rfl) rfl rfl ?_
  intro K hK
  go_simp
  refine hK _ _ (fun _ => HX4.out) ?_
  clear hK
  go_simp
  refine wpRest_one (i := 8) (by kernel_rfl) rfl rfl ?_
  intro K hK
  go_simp
  refine hK _ _ (fun _ => HX4.out) ?_
  clear hK
  go_simp
  refine wpRest_one (i := 9) (by kernel_rfl) rfl rfl ?_
  intro K hK
  refine wp_store_row 33 (.tmp 14) (.tmp 77) rfl (h + 2) (xs SA sn sc d).toArray rfl rfl 33 xz.toArray D4.out.r (sizeX _ _ _ _) rfl (oneX _ _ _ _) ?_
  obtain ⟨hx, hg, hr, hre, ht⟩ := D4.out.ended d (BRow.mk none 0 0 []) (BRow.mk none 0 0 []) HG4.out HR4.out
  have HX5 := Lib.hid hx; have HG5 := Lib.hid hg; have HR5 := Lib.hid hr; have HE5 := Lib.hid hre; have HT5 := Lib.hid ht
  clear hx hg hr hre ht
  refine hK _ _ (fun q => by cases q) ?_
  clear hK
  go_simp
  refine wpRest_nil (by kernel_rfl) ?_
  go_wp2_with fail
  exact bodyPost_ret (v := .tuple #[(BRow.mk none 0 0 []).v, (BRow.mk none 0 0 []).v, .bool (false), .bool (false), xv SA sn sc d]) (results_do Tryz.results28 _ _ (h + 2) SA sn sc d rfl HX5.out) rfl ⟨BRow.mk none 0 0 [], BRow.mk none 0 0 [], false, d, rfl, rfl, HG5.out, HR5.out, HLN.out, by omega, HE5.out, HT5.out, Nat.le_refl _, HF.out⟩
set_option maxRecDepth 100000 in
set_option maxHeartbeats 2000000 in
theorem do_open (i j : Int) (x y : BRow) (s : List UInt8) (a b : BRow) (w : World) (re : RealW w g p A0 n0 c0 seed d) (sd : Bs w SA sn sc seed) (ba : a.ok w) (bb : b.ok w) (sk : ShaK w) (hsn : sn ≤ 1000) (hn0 : n0 ≤ 1000) (hd : d < 50) (hqa : a.n ≤ 20000) (hqb : b.n ≤ 20000) (h32 : a.n = 32) (h48 : 48 ≤ b.n) :
    Calls Tryz.prog 28 #[.pointer (some ⟨g, 0, none⟩), xv SA sn sc d, xact 2 i j x y s, a.v, b.v] w (RetDo w g p A0 n0 c0 seed SA sn sc d b) := by
  obtain ⟨k, hk⟩ : ∃ k : Int, k = 2 := ⟨_, rfl⟩
  rw [← hk]
  have HKK := Lib.hid hk; clear hk
  have D0 := Lib.hid (dw_s k i j x y s re sd ba bb sk)
  obtain ⟨W, hW⟩ : ∃ W, W = dw w SA sn sc d k i j x y s := ⟨_, rfl⟩
  rw [← hW] at D0
  unfold dw at hW
  have HW := Lib.hid hW
  clear hW re sd ba bb sk
  obtain ⟨xa, xn, xc, xl⟩ := x
  obtain ⟨ya, yn, yc, yl⟩ := y
  obtain ⟨aa, an, ac, al⟩ := a
  obtain ⟨ba', bn, bc, bl⟩ := b
  show Calls _ _ #[.pointer (some ⟨g, 0, none⟩), .agg #[.bool true, .slice SA sn sc, .int .i64 (d : Int), .slice none 0 0, .slice none 0 0], .agg #[.int .i64 k, .int .i64 i, .int .i64 j, .slice xa xn xc, .slice ya yn yc, .string ⟨s.toArray⟩], .slice aa an ac, .slice ba' bn bc] _ _
  simp only at HW hqa hqb
  go_enter Tryz.func28, Tryz.ntmps28
  go_upto_region 1 with fail
  rw [← HW.out]
  obtain ⟨h, hh⟩ : ∃ h, h = w.heap.size := ⟨_, rfl⟩
  rw [← hh] at D0 ⊢
  clear HW
  have HH := Lib.hid hh; clear hh
  have ck : W.cell? ⟨h + 1, 0, none⟩ = some (.int .i64 k) := D0.out.ak.cell 0
  have c5 : W.cell? ⟨h + 1, 5, none⟩ = some (.string ⟨s.toArray⟩) := D0.out.ak.cell 5
  rw [HKK.out] at ck
  simp only at h32 h48
  subst h32
  have HBL : Hid (bl.length = bn) := Bs.len D0.out.bb
  have HDR := Lib.hid (fun w1 (D1 : DS w g p A0 n0 c0 seed SA sn sc d k i j ⟨xa, xn, xc, xl⟩ ⟨ya, yn, yc, yl⟩ s ⟨aa, 32, ac, al⟩ ⟨ba', bn, bc, bl⟩ h d xz w1) => realOpen_any g aa ba' ac bc bn al bl w1 D1.re.real D1.ba D1.bb h48 (by omega) D1.sk)
  have HXO := Lib.hid (xOpen_any SA aa ba' sn sc d ac bn bc al bl W D0.out.ba D0.out.bb h48 (by omega))
  have H48 := Lib.hid h48
  clear h48
  unfold RetOpenR at HDR HXO
  cases hq : sealedL al bl
  · rw [hq] at HDR HXO
    simp only [Bool.false_eq_true, if_false] at HDR HXO
    clear hq
    go_upto_region 10 with (first
      | (refine wpList_load_row rfl 33 (.tmp 6) rfl h rfl 33 (xs SA sn sc d).toArray (0, 0) _ D0.out.xx Tryz.underlying33 rfl (sizeX _ _ _ _) ?_)
      | (go_at_call 66; refine HXO.out.mono ?_; rintro e w1 ⟨g1, rfl⟩; have D1 := Lib.hid (D0.out.mono g1); clear g1 ck c5))
    go_upto_region 11 with (go_at_call 19; refine (HDR.out w1 D1.out).mono ?_; rintro e w3 ⟨g3, rfl⟩; have D3 := Lib.hid (D1.out.mono g3); clear g3)
    have S3g : Hid (BRow.ok w3 ⟨none, 0, 0, []⟩) := Sl.nil _ _
    have S3r : Hid (BRow.ok w3 ⟨none, 0, 0, []⟩) := Sl.nil _ _
    have HLN : Hid (0 ≤ bn + 48) := Nat.zero_le _
    have HF : Hid (FreshR w none 0) := FreshR.nil w
    clear D1 HDR HXO
    go_upto_region 11 with fail
    refine wp_region_pre (by kernel_rfl) (fun w' => Xk w' h (xs SA sn sc d)) (fun q => q == 4) (fun q => q == 9) [0, 1, 2, 3, 4] 5 (by kernel_rfl) (by kernel_rfl) (by kernel_rfl) ((Gr.drew _).blk D3.out.xx) ?_
    refine wpPre_e rfl rfl ?_
    apply Exists.intro
    refine ⟨fun wq hq => ?_, ?_⟩
    · clear hq
      unfold plainAt
      go_simp
      first | exact rfl | exact ⟨rfl, rfl⟩
    go_simp
    refine wpPre_e rfl rfl ?_
    apply Exists.intro
    refine ⟨fun wq hq => ?_, ?_⟩
    · clear hq
      unfold plainAt
      go_simp
      first | exact rfl | exact ⟨rfl, rfl⟩
    go_simp
    refine wpPre_e rfl rfl ?_
    apply Exists.intro
    refine ⟨fun wq hq => ?_, ?_⟩
    · clear hq
      unfold plainAt
      go_simp
      first | exact rfl | exact ⟨rfl, rfl⟩
    go_simp
    refine wpPre_e rfl rfl ?_
    apply Exists.intro
    refine ⟨fun wq hq => ?_, ?_⟩
    · clear hq
      unfold plainAt
      go_simp
      first | exact rfl | exact ⟨rfl, rfl⟩
    go_simp
    refine wpPre_e rfl rfl ⟨.agg (xs SA sn sc d).toArray, fun wq hq => plainRow 33 (.tmp 6) rfl h 0 rfl _ _ (Xk.whole (hq rfl)) Tryz.underlying33 rfl (sizeXc _ _ _ _), ?_⟩
    go_simp
    refine wpPre_nil ?_
    obtain ⟨w4, hw4⟩ : ∃ w4, w4 = w3.drew := ⟨_, rfl⟩
    have D4 : Hid (DS w g p A0 n0 c0 seed SA sn sc d k i j ⟨xa, xn, xc, xl⟩ ⟨ya, yn, yc, yl⟩ s ⟨aa, 32, ac, al⟩ ⟨ba', bn, bc, bl⟩ h d xz w4) := by rw [hw4]; exact D3.out.mono (Gr.drew _)
    have HX4 : Hid (Xk w4 h (xs SA sn sc d)) := D4.out.xx
    have HG4 : Hid (BRow.ok w4 (BRow.mk none 0 0 [])) := by rw [hw4]; exact Sl.mono S3g.out (Gr.drew _)
    have HR4 : Hid (BRow.ok w4 (BRow.mk none 0 0 [])) := by rw [hw4]; exact Sl.mono S3r.out (Gr.drew _)
    rw [← hw4]
    clear hw4 D3 S3g S3r
    refine wpRest_one (i := 5) (by kernel_rfl) rfl rfl ?_
    intro K hK
    go_simp
    refine hK _ _ (fun _ => HX4.out) ?_
    clear hK
    go_simp
    refine wpRest_one (i := 6) (by kernel_rfl) rfl rfl ?_
    intro K hK
    go_simp
    refine hK _ _ (fun _ => HX4.out) ?_
    clear hK
    go_simp
    refine wpRest_one (i := 7) (by kernel_rfl) rfl rfl ?_
    intro K hK
    go_simp
    refine hK _ _ (fun _ => HX4.out) ?_
    clear hK
    go_simp
    refine wpRest_one (i := 8) (by kernel_rfl) rfl rfl ?_
    intro K hK
    go_simp
    refine hK _ _ (fun _ => HX4.out) ?_
    clear hK
    go_simp
    refine wpRest_one (i := 9) (by kernel_rfl) rfl rfl ?_
    intro K hK
    refine wp_store_row 33 (.tmp 14) (.tmp 77) rfl (h + 2) (xs SA sn sc d).toArray rfl rfl 33 xz.toArray D4.out.r (sizeX _ _ _ _) rfl (oneX _ _ _ _) ?_
    obtain ⟨hx, hg, hr, hre, ht⟩ := D4.out.ended d (BRow.mk none 0 0 []) (BRow.mk none 0 0 []) HG4.out HR4.out
    have HX5 := Lib.hid hx; have HG5 := Lib.hid hg; have HR5 := Lib.hid hr; have HE5 := Lib.hid hre; have HT5 := Lib.hid ht
    clear hx hg hr hre ht
    refine hK _ _ (fun q => by cases q) ?_
    clear hK
    go_simp
    refine wpRest_nil (by kernel_rfl) ?_
    go_wp2_with fail
    exact bodyPost_ret (v := .tuple #[(BRow.mk none 0 0 []).v, (BRow.mk none 0 0 []).v, .bool (false), .bool (false), xv SA sn sc d]) (results_do Tryz.results28 _ _ (h + 2) SA sn sc d rfl HX5.out) rfl ⟨BRow.mk none 0 0 [], BRow.mk none 0 0 [], false, d, rfl, rfl, HG5.out, HR5.out, HLN.out, by omega, HE5.out, HT5.out, Nat.le_refl _, HF.out⟩
  · rw [hq] at HDR HXO
    simp only [if_true] at HDR HXO
    clear hq
    go_upto_region 10 with (first
      | (refine wpList_load_row rfl 33 (.tmp 6) rfl h rfl 33 (xs SA sn sc d).toArray (0, 0) _ D0.out.xx Tryz.underlying33 rfl (sizeX _ _ _ _) ?_)
      | (go_at_call 66; refine HXO.out.mono ?_; rintro e w1 ⟨g1, v1, rfl, o1⟩; obtain ⟨A1, c1, rfl, s1⟩ := o1.slice; have HF : Hid (FreshR w A1 (bl.length - 48)) := (Own.fresh o1).old D0.out.t.size; have S1 := Lib.hid s1; have D1 := Lib.hid (D0.out.mono g1); clear g1 o1 s1 ck c5))
    go_upto_region 11 with (go_at_call 19; refine (HDR.out w1 D1.out).mono ?_; rintro e w3 ⟨g3, v3, rfl, o3⟩; obtain ⟨A3, c3, rfl, s3⟩ := o3.slice; have S3g : Hid (BRow.ok w3 ⟨A3, bl.length - 48, c3, openL al bl⟩) := s3; have S3r : Hid (BRow.ok w3 ⟨A1, bl.length - 48, c1, openL al bl⟩) := Sl.mono S1.out g3; have D3 := Lib.hid (D1.out.mono g3); clear g3 o3 s3)
    have HLN : Hid (bl.length - 48 ≤ bn + 48) := by show _ ≤ _; rw [HBL.out]; omega
    clear D1 HDR HXO S1
    go_upto_region 11 with fail
    refine wp_region_pre (by kernel_rfl) (fun w' => Xk w' h (xs SA sn sc d)) (fun q => q == 4) (fun q => q == 9) [0, 1, 2, 3, 4] 5 (by kernel_rfl) (by kernel_rfl) (by kernel_rfl) ((Gr.drew _).blk D3.out.xx) ?_
    refine wpPre_e rfl rfl ?_
    apply Exists.intro
    refine ⟨fun wq hq => ?_, ?_⟩
    · clear hq
      unfold plainAt
      go_simp
      first | exact rfl | exact ⟨rfl, rfl⟩
    go_simp
    refine wpPre_e rfl rfl ?_
    apply Exists.intro
    refine ⟨fun wq hq => ?_, ?_⟩
    · clear hq
      unfold plainAt
      go_simp
      first | exact rfl | exact ⟨rfl, rfl⟩
    go_simp
    refine wpPre_e rfl rfl ?_
    apply Exists.intro
    refine ⟨fun wq hq => ?_, ?_⟩
    · clear hq
      unfold plainAt
      go_simp
      first | exact rfl | exact ⟨rfl, rfl⟩
    go_simp
    refine wpPre_e rfl rfl ?_
    apply Exists.intro
    refine ⟨fun wq hq => ?_, ?_⟩
    · clear hq
      unfold plainAt
      go_simp
      first | exact rfl | exact ⟨rfl, rfl⟩
    go_simp
    refine wpPre_e rfl rfl ⟨.agg (xs SA sn sc d).toArray, fun wq hq => plainRow 33 (.tmp 6) rfl h 0 rfl _ _ (Xk.whole (hq rfl)) Tryz.underlying33 rfl (sizeXc _ _ _ _), ?_⟩
    go_simp
    refine wpPre_nil ?_
    obtain ⟨w4, hw4⟩ : ∃ w4, w4 = w3.drew := ⟨_, rfl⟩
    have D4 : Hid (DS w g p A0 n0 c0 seed SA sn sc d k i j ⟨xa, xn, xc, xl⟩ ⟨ya, yn, yc, yl⟩ s ⟨aa, 32, ac, al⟩ ⟨ba', bn, bc, bl⟩ h d xz w4) := by rw [hw4]; exact D3.out.mono (Gr.drew _)
    have HX4 : Hid (Xk w4 h (xs SA sn sc d)) := D4.out.xx
    have HG4 : Hid (BRow.ok w4 (BRow.mk A3 (bl.length - 48) c3 (openL al bl))) := by rw [hw4]; exact Sl.mono S3g.out (Gr.drew _)
    have HR4 : Hid (BRow.ok w4 (BRow.mk A1 (bl.length - 48) c1 (openL al bl))) := by rw [hw4]; exact Sl.mono S3r.out (Gr.drew _)
    rw [← hw4]
    clear hw4 D3 S3g S3r
    refine wpRest_one (i := 5) (by kernel_rfl) rfl rfl ?_
    intro K hK
    go_simp
    refine hK _ _ (fun _ => HX4.out) ?_
    clear hK
    go_simp
    refine wpRest_one (i := 6) (by kernel_rfl) rfl rfl ?_
    intro K hK
    go_simp
    refine hK _ _ (fun _ => HX4.out) ?_
    clear hK
    go_simp
    refine wpRest_one (i := 7) (by kernel_rfl) rfl rfl ?_
    intro K hK
    go_simp
    refine hK _ _ (fun _ => HX4.out) ?_
    clear hK
    go_simp
    refine wpRest_one (i := 8) (by kernel_rfl) rfl rfl ?_
    intro K hK
    go_simp
    refine hK _ _ (fun _ => HX4.out) ?_
    clear hK
    go_simp
    refine wpRest_one (i := 9) (by kernel_rfl) rfl rfl ?_
    intro K hK
    refine wp_store_row 33 (.tmp 14) (.tmp 77) rfl (h + 2) (xs SA sn sc d).toArray rfl rfl 33 xz.toArray D4.out.r (sizeX _ _ _ _) rfl (oneX _ _ _ _) ?_
    obtain ⟨hx, hg, hr, hre, ht⟩ := D4.out.ended d (BRow.mk A3 (bl.length - 48) c3 (openL al bl)) (BRow.mk A1 (bl.length - 48) c1 (openL al bl)) HG4.out HR4.out
    have HX5 := Lib.hid hx; have HG5 := Lib.hid hg; have HR5 := Lib.hid hr; have HE5 := Lib.hid hre; have HT5 := Lib.hid ht
    clear hx hg hr hre ht
    refine hK _ _ (fun q => by cases q) ?_
    clear hK
    go_simp
    refine wpRest_nil (by kernel_rfl) ?_
    go_wp2_with fail
    exact bodyPost_ret (v := .tuple #[(BRow.mk A3 (bl.length - 48) c3 (openL al bl)).v, (BRow.mk A1 (bl.length - 48) c1 (openL al bl)).v, .bool (true), .bool (true), xv SA sn sc d]) (results_do Tryz.results28 _ _ (h + 2) SA sn sc d rfl HX5.out) rfl ⟨BRow.mk A3 (bl.length - 48) c3 (openL al bl), BRow.mk A1 (bl.length - 48) c1 (openL al bl), true, d, rfl, rfl, HG5.out, HR5.out, HLN.out, by omega, HE5.out, HT5.out, Nat.le_refl _, HF.out⟩
set_option maxRecDepth 100000 in
set_option maxHeartbeats 2000000 in
theorem do_check (k i j : Int) (x y : BRow) (s : List UInt8) (a b : BRow) (w : World) (re : RealW w g p A0 n0 c0 seed d) (sd : Bs w SA sn sc seed) (ba : a.ok w) (bb : b.ok w) (sk : ShaK w) (hsn : sn ≤ 1000) (hn0 : n0 ≤ 1000) (hd : d < 50) (hqa : a.n ≤ 20000) (hqb : b.n ≤ 20000) (hk0 : ¬ (0 ≤ k ∧ k ≤ 5)) :
    Calls Tryz.prog 28 #[.pointer (some ⟨g, 0, none⟩), xv SA sn sc d, xact k i j x y s, a.v, b.v] w (RetDo w g p A0 n0 c0 seed SA sn sc d b) := by
  have t0 : (k == 0) = false := by rw [beq_eq_false_iff_ne]; omega
  have t1 : (k == 1) = false := by rw [beq_eq_false_iff_ne]; omega
  have t2 : (k == 2) = false := by rw [beq_eq_false_iff_ne]; omega
  have t3 : (k == 3) = false := by rw [beq_eq_false_iff_ne]; omega
  have t4 : (k == 4) = false := by rw [beq_eq_false_iff_ne]; omega
  have t5 : (k == 5) = false := by rw [beq_eq_false_iff_ne]; omega
  clear hk0
  have D0 := Lib.hid (dw_s k i j x y s re sd ba bb sk)
  obtain ⟨W, hW⟩ : ∃ W, W = dw w SA sn sc d k i j x y s := ⟨_, rfl⟩
  rw [← hW] at D0
  unfold dw at hW
  have HW := Lib.hid hW
  clear hW re sd ba bb sk
  obtain ⟨xa, xn, xc, xl⟩ := x
  obtain ⟨ya, yn, yc, yl⟩ := y
  obtain ⟨aa, an, ac, al⟩ := a
  obtain ⟨ba', bn, bc, bl⟩ := b
  show Calls _ _ #[.pointer (some ⟨g, 0, none⟩), .agg #[.bool true, .slice SA sn sc, .int .i64 (d : Int), .slice none 0 0, .slice none 0 0], .agg #[.int .i64 k, .int .i64 i, .int .i64 j, .slice xa xn xc, .slice ya yn yc, .string ⟨s.toArray⟩], .slice aa an ac, .slice ba' bn bc] _ _
  simp only at HW hqa hqb
  go_enter Tryz.func28, Tryz.ntmps28
  go_upto_region 1 with fail
  rw [← HW.out]
  obtain ⟨h, hh⟩ : ∃ h, h = w.heap.size := ⟨_, rfl⟩
  rw [← hh] at D0 ⊢
  clear HW
  have HH := Lib.hid hh; clear hh
  have ck : W.cell? ⟨h + 1, 0, none⟩ = some (.int .i64 k) := D0.out.ak.cell 0
  have c5 : W.cell? ⟨h + 1, 5, none⟩ = some (.string ⟨s.toArray⟩) := D0.out.ak.cell 5
  go_upto_region 21 with fail
  refine wp_region_pre (by kernel_rfl) (fun w' => Xk w' h (xs SA sn sc d)) (fun q => q == 4 || q == 8) (fun q => q == 13) [0, 1, 2, 5, 6, 4, 8] 7 (by kernel_rfl) (by kernel_rfl) (by kernel_rfl) ((Gr.drew _).blk D0.out.xx) ?_
  refine wpPre_e rfl rfl ?_
  apply Exists.intro
  refine ⟨fun wq hq => ?_, ?_⟩
  · clear hq
    unfold plainAt
    go_simp
    first | exact rfl | exact ⟨rfl, rfl⟩
  go_simp
  refine wpPre_e rfl rfl ?_
  apply Exists.intro
  refine ⟨fun wq hq => ?_, ?_⟩
  · clear hq
    unfold plainAt
    go_simp
    first | exact rfl | exact ⟨rfl, rfl⟩
  go_simp
  refine wpPre_e rfl rfl ?_
  apply Exists.intro
  refine ⟨fun wq hq => ?_, ?_⟩
  · clear hq
    unfold plainAt
    go_simp
    first | exact rfl | exact ⟨rfl, rfl⟩
  go_simp
  refine wpPre_e rfl rfl ?_
  apply Exists.intro
  refine ⟨fun wq hq => ?_, ?_⟩
  · clear hq
    unfold plainAt
    go_simp
    first | exact rfl | exact ⟨rfl, rfl⟩
  go_simp
  refine wpPre_e rfl rfl ?_
  apply Exists.intro
  refine ⟨fun wq hq => ?_, ?_⟩
  · clear hq
    unfold plainAt
    go_simp
    first | exact rfl | exact ⟨rfl, rfl⟩
  go_simp
  refine wpPre_e rfl rfl ⟨.agg (xs SA sn sc d).toArray, fun wq hq => plainRow 33 (.tmp 6) rfl h 0 rfl _ _ (Xk.whole (hq rfl)) Tryz.underlying33 rfl (sizeXc _ _ _ _), ?_⟩
  go_simp
  refine wpPre_e rfl rfl ⟨.agg (xs SA sn sc d).toArray, fun wq hq => plainRow 33 (.tmp 6) rfl h 0 rfl _ _ (Xk.whole (hq rfl)) Tryz.underlying33 rfl (sizeXc _ _ _ _), ?_⟩
  go_simp
  refine wpPre_nil ?_
  obtain ⟨w3, hw3⟩ : ∃ w3, w3 = W.drew := ⟨_, rfl⟩
  have D3 : Hid (DS w g p A0 n0 c0 seed SA sn sc d k i j ⟨xa, xn, xc, xl⟩ ⟨ya, yn, yc, yl⟩ s ⟨aa, an, ac, al⟩ ⟨ba', bn, bc, bl⟩ h d xz w3) := by rw [hw3]; exact D0.out.mono (Gr.drew _)
  rw [← hw3]
  clear hw3 D0 ck c5
  have HDR := Lib.hid (realCheck_any g aa ba' an ac bn bc al bl w3 D3.out.re.real D3.out.ba D3.out.bb)
  refine wpRest_one (i := 3) (by kernel_rfl) rfl rfl ?_
  intro K hK
  go_simp
  go_at_call 20
  refine HDR.out.mono ?_
  rintro e w4 ⟨rfl, g4⟩
  have D4' := Lib.hid (D3.out.mono g4)
  have HX4' : Hid (Xk w4 h (xs SA sn sc d)) := D4'.out.xx
  refine hK _ _ (fun _ => HX4'.out) ?_
  clear hK g4 HDR D3
  go_simp
  have HDX := Lib.hid (xCheck_any SA aa ba' sn sc d an ac bn bc al bl w4 D4'.out.ba D4'.out.bb)
  refine wpRest_one (i := 7) (by kernel_rfl) rfl rfl ?_
  intro K hK
  go_simp
  go_at_call 70
  refine HDX.out.mono ?_
  rintro e w5 ⟨rfl, g5⟩
  have D4 := Lib.hid (D4'.out.mono g5)
  have HX4 : Hid (Xk w5 h (xs SA sn sc d)) := D4.out.xx
  refine hK _ _ (fun _ => HX4.out) ?_
  clear hK g5 HDX D4' HX4'
  go_simp
  have HG4 : Hid (BRow.ok w5 ⟨none, 0, 0, []⟩) := Sl.nil _ _
  have HR4 : Hid (BRow.ok w5 ⟨none, 0, 0, []⟩) := Sl.nil _ _
  have HLN : Hid (0 ≤ bn + 48) := Nat.zero_le _
  have HF : Hid (FreshR w none 0) := FreshR.nil w
  refine wpRest_one (i := 9) (by kernel_rfl) rfl rfl ?_
  intro K hK
  go_simp
  refine hK _ _ (fun _ => HX4.out) ?_
  clear hK
  go_simp
  refine wpRest_one (i := 10) (by kernel_rfl) rfl rfl ?_
  intro K hK
  go_simp
  refine hK _ _ (fun _ => HX4.out) ?_
  clear hK
  go_simp
  refine wpRest_one (i := 11) (by kernel_rfl) rfl rfl ?_
  intro K hK
  go_simp
  refine hK _ _ (fun _ => HX4.out) ?_
  clear hK
  go_simp
  refine wpRest_one (i := 12) (by kernel_rfl) rfl rfl ?_
  intro K hK
  go_simp
  refine hK _ _ (fun _ => HX4.out) ?_
  clear hK
  go_simp
  refine wpRest_one (i := 13) (by kernel_rfl) rfl rfl ?_
  intro K hK
  refine wp_store_row 33 (.tmp 14) (.tmp 131) rfl (h + 2) (xs SA sn sc d).toArray rfl rfl 33 xz.toArray D4.out.r (sizeX _ _ _ _) rfl (oneX _ _ _ _) ?_
  obtain ⟨hx, hg, hr, hre, ht⟩ := D4.out.ended d (BRow.mk none 0 0 []) (BRow.mk none 0 0 []) HG4.out HR4.out
  have HX5 := Lib.hid hx; have HG5 := Lib.hid hg; have HR5 := Lib.hid hr; have HE5 := Lib.hid hre; have HT5 := Lib.hid ht
  clear hx hg hr hre ht
  refine hK _ _ (fun q => by cases q) ?_
  clear hK
  go_simp
  refine wpRest_nil (by kernel_rfl) ?_
  go_wp2_with fail
  exact bodyPost_ret (v := .tuple #[(BRow.mk none 0 0 []).v, (BRow.mk none 0 0 []).v, .bool (crcL al == bl), .bool (crcL al == bl), xv SA sn sc d]) (results_do Tryz.results28 _ _ (h + 2) SA sn sc d rfl HX5.out) rfl ⟨BRow.mk none 0 0 [], BRow.mk none 0 0 [], crcL al == bl, d, rfl, rfl, HG5.out, HR5.out, HLN.out, by omega, HE5.out, HT5.out, Nat.le_refl _, HF.out⟩
end
end Go.Proofs.YtcfbbgbjlgonpaaGreatDoor
