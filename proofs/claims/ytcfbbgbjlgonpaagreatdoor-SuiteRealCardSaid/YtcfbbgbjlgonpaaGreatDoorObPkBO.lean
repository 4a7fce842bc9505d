/- Own texts of this claim, one behind the other. No condition. -/
import Derived.Test.YtcfbbgbjlgonpaaGreatDoorObPkBE
import Derived.Test.YtcfbbgbjlgonpaaGreatDoorObPkBN

/- The reference of layer 17, of a seed: what draws nothing. No condition. -/
namespace Go.Proofs.YtcfbbgbjlgonpaaGreatDoor
open Go.RowKit
set_option linter.unusedVariables false
set_option linter.unusedSimpArgs false
theorem refMixK_any (A B : Option Addr) (n c m d : Nat) (k t : List UInt8) (w : World) (h : Bs w A n c k) (hn : n ≤ 50000) (ht : Bs w B m d t) (hm : m ≤ 40000) :
    Calls Tryz.prog 107 #[.slice A n c, .slice B m d] w (RetBs w (macL k t)) := by
  have HM := Lib.hid (refMac_any A B n c m d k t w h hn ht hm)
  clear h ht
  go_enter Tryz.func107, Tryz.ntmps107
  go_wp2_with fail
  refine HM.out.mono ?_
  rintro e w1 ⟨v, rfl, o⟩
  have O := Lib.hid o; clear o
  go_wp2_with fail
  go_ret
  exact ⟨v, rfl, O.out⟩
set_option maxRecDepth 100000 in
set_option maxHeartbeats 1000000 in
theorem xDerive_any (A B : Option Addr) (n c d m b : Nat) (key s : List UInt8) (w : World) (hk : Bs w B m b key) (hm : m ≤ 50000) (hs : s.length ≤ 5000) :
    Calls Tryz.prog 67 #[xv A n c d, .slice B m b, .string ⟨s.toArray⟩] w (RetX w A n c d (deriveL key s)) := by
  unfold xv
  show Calls _ _ #[.agg #[.bool true, .slice A n c, .int .i64 (d : Int), .slice none 0 0, .slice none 0 0], _, _] _ _
  obtain ⟨W, hW⟩ : ∃ W, W = xw w A n c d := ⟨_, rfl⟩
  have M0 := Lib.hid (xw_m w A n c d)
  rw [← hW] at M0
  unfold xw at hW
  have HW := Lib.hid hW
  clear hW
  have HC := Lib.hid (fun W' hW' => refDeriveO_any B m b key s W' (Sl.mono (w := W) (hk.mono M0.out.gr) hW') hm hs)
  clear hk
  go_enter Tryz.func67, Tryz.ntmps67
  go_upto_region 1 with fail
  rw [← HW.out]
  obtain ⟨h, hh⟩ : ∃ h, h = w.heap.size := ⟨_, rfl⟩
  rw [← hh] at M0 ⊢
  have HH := Lib.hid hh; clear hh
  have c0 : W.cell? ⟨h, 0, none⟩ = some (.bool true) := M0.out.a.cell 0
  go_upto_region 2 with fail
  refine wp_region_grow (by kernel_rfl) [0, 0, 0, 6, 15, 31] [.p 1, .p 2, .q 0, .c 3, .s 4, .p 5] (by kernel_rfl) (trivial) ?_
  refine wpG_pe rfl rfl ?_
  apply Exists.intro
  refine ⟨fun wq => ?_, ?_⟩
  · unfold plainAt
    go_simp
    first | exact rfl | exact ⟨rfl, rfl⟩
  go_simp
  refine wpG_pe rfl rfl ?_
  apply Exists.intro
  refine ⟨fun wq => ?_, ?_⟩
  · unfold plainAt
    go_simp
    first | exact rfl | exact ⟨rfl, rfl⟩
  go_simp
  refine wpG_qe rfl rfl ⟨.agg (xs A n c d).toArray, fun wq hq => plainRow 33 (.tmp 3) rfl h 0 rfl _ _ (Xk.whole (M0.out.mono ((Gr.drew _).trans hq)).a) Tryz.underlying33 rfl (sizeXc _ _ _ _), ?_⟩
  go_simp
  refine wpG_c rfl rfl ?_
  intro w5 g5 K hK
  go_simp
  go_at_call 106
  refine (HC.out w5 ((Gr.drew _).trans g5)).mono ?_
  rintro e wn ⟨v6, rfl, o6⟩
  obtain ⟨A6, c6, rfl, s6⟩ := o6.slice; have F6 := Lib.hid ((Own.fresh o6).old (M0.out.mono ((Gr.drew _).trans g5)).gr.size); have S6 := Lib.hid s6; have M6 := Lib.hid (M0.out.mono (((Gr.drew _).trans g5).trans o6.below)); refine hK _ _ o6.below ?_; clear hK g5 o6 s6
  go_simp
  refine wpG_s rfl rfl ?_
  intro w7 g7 K hK
  have M7 := Lib.hid (M6.out.mono g7)
  have S7 := Lib.hid (Sl.mono S6.out g7)
  refine wp_store_row 33 (.tmp 6) (.tmp 14) rfl (h + 1) (xs A n c d).toArray rfl rfl 33 xz.toArray M7.out.b (sizeX _ _ _ _) rfl (oneX _ _ _ _) ?_
  refine hK _ _ ?_
  clear hK
  have M8 := Lib.hid (M7.out.ret (Nat.le_of_eq HH.out.symm) (xs A n c d))
  have S8 := Lib.hid (Bs.x S7.out M7.out.a M7.out.b (xs_not _ _ _ _) xz_not (Tch.rowC (S := fun b => b = h ∨ b = h + 1) (h + 1) (xs A n c d).toArray (.inr rfl)))
  obtain ⟨W8, hW8⟩ : ∃ W8, W8 = w7.setRow (h + 1) (xs A n c d).toArray := ⟨_, rfl⟩
  rw [← hW8] at M8 S8 ⊢
  clear hW8 M7 S7 M6 S6 g7
  go_simp
  refine wpG_pe rfl rfl ?_
  apply Exists.intro
  refine ⟨fun wq => ?_, ?_⟩
  · unfold plainAt
    go_simp
    first | exact rfl | exact ⟨rfl, rfl⟩
  go_simp
  refine wpG_nil ?_
  intro w9 g9
  have M9 := Lib.hid (M8.out.mono g9)
  have S9 := Lib.hid (Sl.mono S8.out g9)
  clear g9 M8 S8
  go_wp2_with fail
  exact bodyPost_ret (v := .tuple #[xv A n c d, .slice A6 _ c6]) (results_x Tryz.results67 _ _ (h + 1) A n c d rfl M9.out.b) rfl ⟨A6, _, c6, rfl, S9.out, M9.out.gr, F6.out⟩
set_option maxRecDepth 100000 in
set_option maxHeartbeats 1000000 in
theorem xMix_any (A B C : Option Addr) (n c d m b q e0 : Nat) (k t : List UInt8) (w : World) (hk : Bs w B m b k) (hm : m ≤ 50000) (ht : Bs w C q e0 t) (hq : q ≤ 40000) :
    Calls Tryz.prog 68 #[xv A n c d, .slice B m b, .slice C q e0] w (RetX w A n c d (macL k t)) := by
  unfold xv
  show Calls _ _ #[.agg #[.bool true, .slice A n c, .int .i64 (d : Int), .slice none 0 0, .slice none 0 0], _, _] _ _
  obtain ⟨W, hW⟩ : ∃ W, W = xw w A n c d := ⟨_, rfl⟩
  have M0 := Lib.hid (xw_m w A n c d)
  rw [← hW] at M0
  unfold xw at hW
  have HW := Lib.hid hW
  clear hW
  have HC := Lib.hid (fun W' hW' => refMixK_any B C m b q e0 k t W' (Sl.mono (w := W) (hk.mono M0.out.gr) hW') hm (Sl.mono (w := W) (ht.mono M0.out.gr) hW') hq)
  clear hk ht
  go_enter Tryz.func68, Tryz.ntmps68
  go_upto_region 1 with fail
  rw [← HW.out]
  obtain ⟨h, hh⟩ : ∃ h, h = w.heap.size := ⟨_, rfl⟩
  rw [← hh] at M0 ⊢
  have HH := Lib.hid hh; clear hh
  have c0 : W.cell? ⟨h, 0, none⟩ = some (.bool true) := M0.out.a.cell 0
  go_upto_region 2 with fail
  refine wp_region_grow (by kernel_rfl) [0, 0, 0, 6, 15, 31] [.p 1, .p 2, .q 0, .c 3, .s 4, .p 5] (by kernel_rfl) (trivial) ?_
  refine wpG_pe rfl rfl ?_
  apply Exists.intro
  refine ⟨fun wq => ?_, ?_⟩
  · unfold plainAt
    go_simp
    first | exact rfl | exact ⟨rfl, rfl⟩
  go_simp
  refine wpG_pe rfl rfl ?_
  apply Exists.intro
  refine ⟨fun wq => ?_, ?_⟩
  · unfold plainAt
    go_simp
    first | exact rfl | exact ⟨rfl, rfl⟩
  go_simp
  refine wpG_qe rfl rfl ⟨.agg (xs A n c d).toArray, fun wq hq => plainRow 33 (.tmp 3) rfl h 0 rfl _ _ (Xk.whole (M0.out.mono ((Gr.drew _).trans hq)).a) Tryz.underlying33 rfl (sizeXc _ _ _ _), ?_⟩
  go_simp
  refine wpG_c rfl rfl ?_
  intro w5 g5 K hK
  go_simp
  go_at_call 107
  refine (HC.out w5 ((Gr.drew _).trans g5)).mono ?_
  rintro e wn ⟨v6, rfl, o6⟩
  obtain ⟨A6, c6, rfl, s6⟩ := o6.slice; have F6 := Lib.hid ((Own.fresh o6).old (M0.out.mono ((Gr.drew _).trans g5)).gr.size); have S6 := Lib.hid s6; have M6 := Lib.hid (M0.out.mono (((Gr.drew _).trans g5).trans o6.below)); refine hK _ _ o6.below ?_; clear hK g5 o6 s6
  go_simp
  refine wpG_s rfl rfl ?_
  intro w7 g7 K hK
  have M7 := Lib.hid (M6.out.mono g7)
  have S7 := Lib.hid (Sl.mono S6.out g7)
  refine wp_store_row 33 (.tmp 6) (.tmp 16) rfl (h + 1) (xs A n c d).toArray rfl rfl 33 xz.toArray M7.out.b (sizeX _ _ _ _) rfl (oneX _ _ _ _) ?_
  refine hK _ _ ?_
  clear hK
  have M8 := Lib.hid (M7.out.ret (Nat.le_of_eq HH.out.symm) (xs A n c d))
  have S8 := Lib.hid (Bs.x S7.out M7.out.a M7.out.b (xs_not _ _ _ _) xz_not (Tch.rowC (S := fun b => b = h ∨ b = h + 1) (h + 1) (xs A n c d).toArray (.inr rfl)))
  obtain ⟨W8, hW8⟩ : ∃ W8, W8 = w7.setRow (h + 1) (xs A n c d).toArray := ⟨_, rfl⟩
  rw [← hW8] at M8 S8 ⊢
  clear hW8 M7 S7 M6 S6 g7
  go_simp
  refine wpG_pe rfl rfl ?_
  apply Exists.intro
  refine ⟨fun wq => ?_, ?_⟩
  · unfold plainAt
    go_simp
    first | exact rfl | exact ⟨rfl, rfl⟩
  go_simp
  refine wpG_nil ?_
  intro w9 g9
  have M9 := Lib.hid (M8.out.mono g9)
  have S9 := Lib.hid (Sl.mono S8.out g9)
  clear g9 M8 S8
  go_wp2_with fail
  exact bodyPost_ret (v := .tuple #[xv A n c d, .slice A6 _ c6]) (results_x Tryz.results68 _ _ (h + 1) A n c d rfl M9.out.b) rfl ⟨A6, _, c6, rfl, S9.out, M9.out.gr, F6.out⟩
set_option maxRecDepth 100000 in
set_option maxHeartbeats 1000000 in
theorem xSum_any (A B : Option Addr) (n c d m b : Nat) (l : List UInt8) (w : World) (hk : Bs w B m b l) :
    Calls Tryz.prog 69 #[xv A n c d, .slice B m b] w (RetX w A n c d (crcL l)) := by
  unfold xv
  show Calls _ _ #[.agg #[.bool true, .slice A n c, .int .i64 (d : Int), .slice none 0 0, .slice none 0 0], _] _ _
  obtain ⟨W, hW⟩ : ∃ W, W = xw w A n c d := ⟨_, rfl⟩
  have M0 := Lib.hid (xw_m w A n c d)
  rw [← hW] at M0
  unfold xw at hW
  have HW := Lib.hid hW
  clear hW
  have HC := Lib.hid (fun W' hW' => refCrcBytes_any B m b l W' (Sl.mono (w := W) (hk.mono M0.out.gr) hW'))
  clear hk
  go_enter Tryz.func69, Tryz.ntmps69
  go_upto_region 1 with fail
  rw [← HW.out]
  obtain ⟨h, hh⟩ : ∃ h, h = w.heap.size := ⟨_, rfl⟩
  rw [← hh] at M0 ⊢
  have HH := Lib.hid hh; clear hh
  have c0 : W.cell? ⟨h, 0, none⟩ = some (.bool true) := M0.out.a.cell 0
  go_upto_region 2 with fail
  refine wp_region_grow (by kernel_rfl) [0, 0, 2, 7, 15] [.p 1, .q 0, .c 2, .s 3, .p 4] (by kernel_rfl) (trivial) ?_
  refine wpG_pe rfl rfl ?_
  apply Exists.intro
  refine ⟨fun wq => ?_, ?_⟩
  · unfold plainAt
    go_simp
    first | exact rfl | exact ⟨rfl, rfl⟩
  go_simp
  refine wpG_qe rfl rfl ⟨.agg (xs A n c d).toArray, fun wq hq => plainRow 33 (.tmp 2) rfl h 0 rfl _ _ (Xk.whole (M0.out.mono ((Gr.drew _).trans hq)).a) Tryz.underlying33 rfl (sizeXc _ _ _ _), ?_⟩
  go_simp
  refine wpG_c rfl rfl ?_
  intro w5 g5 K hK
  go_simp
  go_at_call 108
  refine (HC.out w5 ((Gr.drew _).trans g5)).mono ?_
  rintro e wn ⟨v6, rfl, o6⟩
  obtain ⟨A6, c6, rfl, s6⟩ := o6.slice; have F6 := Lib.hid ((Own.fresh o6).old (M0.out.mono ((Gr.drew _).trans g5)).gr.size); have S6 := Lib.hid s6; have M6 := Lib.hid (M0.out.mono (((Gr.drew _).trans g5).trans o6.below)); refine hK _ _ o6.below ?_; clear hK g5 o6 s6
  go_simp
  refine wpG_s rfl rfl ?_
  intro w7 g7 K hK
  have M7 := Lib.hid (M6.out.mono g7)
  have S7 := Lib.hid (Sl.mono S6.out g7)
  refine wp_store_row 33 (.tmp 4) (.tmp 8) rfl (h + 1) (xs A n c d).toArray rfl rfl 33 xz.toArray M7.out.b (sizeX _ _ _ _) rfl (oneX _ _ _ _) ?_
  refine hK _ _ ?_
  clear hK
  have M8 := Lib.hid (M7.out.ret (Nat.le_of_eq HH.out.symm) (xs A n c d))
  have S8 := Lib.hid (Bs.x S7.out M7.out.a M7.out.b (xs_not _ _ _ _) xz_not (Tch.rowC (S := fun b => b = h ∨ b = h + 1) (h + 1) (xs A n c d).toArray (.inr rfl)))
  obtain ⟨W8, hW8⟩ : ∃ W8, W8 = w7.setRow (h + 1) (xs A n c d).toArray := ⟨_, rfl⟩
  rw [← hW8] at M8 S8 ⊢
  clear hW8 M7 S7 M6 S6 g7
  go_simp
  refine wpG_pe rfl rfl ?_
  apply Exists.intro
  refine ⟨fun wq => ?_, ?_⟩
  · unfold plainAt
    go_simp
    first | exact rfl | exact ⟨rfl, rfl⟩
  go_simp
  refine wpG_nil ?_
  intro w9 g9
  have M9 := Lib.hid (M8.out.mono g9)
  have S9 := Lib.hid (Sl.mono S8.out g9)
  clear g9 M8 S8
  go_wp2_with fail
  exact bodyPost_ret (v := .tuple #[xv A n c d, .slice A6 _ c6]) (results_x Tryz.results69 _ _ (h + 1) A n c d rfl M9.out.b) rfl ⟨A6, _, c6, rfl, S9.out, M9.out.gr, F6.out⟩
/-! ### what answers alone -/
theorem run_8to16 (g o n c : Nat) (h2 : 16 ≤ c) (w : World) : (Instr.slice 28 (.slice (some ⟨g, o, none⟩) n c) (some (.int .i64 8)) (some (.int .i64 16)) none).run Tryz.prog w = .ok (.slice (some ⟨g, o + 8, none⟩) 8 (c - 8)) w := by
  obtain ⟨i, hi, hz, hsz, hby⟩ := info_parts tBytes.info
  have he : Tryz.prog.elem 28 = 5 := by simp [Program.elem, tBytes.und]
  have hu : Tryz.prog.underlying 28 = some (.slice (Tryz.prog.elem 28)) := by rw [he]; exact tBytes.und
  rw [run_slice_lh w 28 (some ⟨g, o, none⟩) n c hu .i64 .i64 8 16 (by omega) (by omega) (by omega)]
  have h3 : ¬ c = 8 := by omega
  simp [sizeOf, typeInfo, he, hi, Result.andThen, sliced, hsz, add_flat, h3]
def xw1 (w : World) (A : Option Addr) (n c d : Nat) : World := w.alloc (.cells #[.bool true, .slice A n c, .int .i64 (d : Int), .slice none 0 0, .slice none 0 0] 33)
theorem xw1_a (w : World) (A : Option Addr) (n c d : Nat) : Xk (xw1 w A n c d) w.heap.size (xs A n c d) := heap_alloc_new w _
theorem xw1_g (w : World) (A : Option Addr) (n c d : Nat) : Gr w (xw1 w A n c d) := Gr.alloc _ _
set_option maxRecDepth 100000 in
theorem xOpen_not (A B C : Option Addr) (n c d m b q e0 : Nat) (w : World) (hh : m ≠ 32 ∨ q < 48) (h1 : m ≤ b) (h2 : b ≤ 9223372036854775807) (h3 : q ≤ e0) (h4 : e0 ≤ 9223372036854775807) :
    Calls Tryz.prog 66 #[xv A n c d, .slice B m b, .slice C q e0] w fun e w' => e = .returned (.tuple #[.slice none 0 0, .bool false]) ∧ Gr w w' := by
  unfold xv
  show Calls _ _ #[.agg #[.bool true, .slice A n c, .int .i64 (d : Int), .slice none 0 0, .slice none 0 0], _, _] _ _
  have HO := Lib.hid (fun W => refOpen_not B C m b q e0 W hh h1 h2 h3 h4)
  clear hh
  obtain ⟨W, hW⟩ : ∃ W, W = xw1 w A n c d := ⟨_, rfl⟩
  have HX := Lib.hid (xw1_a w A n c d); have HG := Lib.hid (xw1_g w A n c d)
  rw [← hW] at HX HG
  unfold xw1 at hW
  have HW := Lib.hid hW
  clear hW
  go_enter Tryz.func66, Tryz.ntmps66
  go_upto_region 1 with fail
  rw [← HW.out]
  obtain ⟨h, hh⟩ : ∃ h, h = w.heap.size := ⟨_, rfl⟩
  rw [← hh] at HX ⊢
  have HH := Lib.hid hh; clear hh
  have c0 : W.cell? ⟨h, 0, none⟩ = some (.bool true) := HX.out.cell 0
  have c3 : W.cell? ⟨h, 3, none⟩ = some (.slice none 0 0) := HX.out.cell 3
  go_wp2_with fail
  refine (HO.out W).mono ?_
  rintro e w1 ⟨rfl, h1⟩
  rw [← h1]
  clear h1 w1
  go_wp2_with fail
  go_ret2
  exact ⟨rfl, HG.out⟩
set_option maxRecDepth 100000 in
set_option maxHeartbeats 1000000 in
theorem xOpen_any (A B C : Option Addr) (n c d b q e0 : Nat) (key l : List UInt8) (w : World) (hk : Bs w B 32 b key) (hl : Bs w C q e0 l) (h48 : 48 ≤ q) (hm : q ≤ 30000) :
    Calls Tryz.prog 66 #[xv A n c d, .slice B 32 b, .slice C q e0] w (RetOpenR w key l) := by
  unfold xv
  show Calls _ _ #[.agg #[.bool true, .slice A n c, .int .i64 (d : Int), .slice none 0 0, .slice none 0 0], _, _] _ _
  have HO := Lib.hid (fun W (hW : Gr w W) => refOpen_some B C b e0 q key l W (hk.mono hW) (hl.mono hW) h48 hm)
  clear hk hl
  obtain ⟨W, hW⟩ : ∃ W, W = xw1 w A n c d := ⟨_, rfl⟩
  have HX := Lib.hid (xw1_a w A n c d); have HG := Lib.hid (xw1_g w A n c d)
  rw [← hW] at HX HG
  unfold xw1 at hW
  have HW := Lib.hid hW
  clear hW
  go_enter Tryz.func66, Tryz.ntmps66
  go_upto_region 1 with fail
  rw [← HW.out]
  obtain ⟨h, hh⟩ : ∃ h, h = w.heap.size := ⟨_, rfl⟩
  rw [← hh] at HX ⊢
  have HH := Lib.hid hh; clear hh
  have c0 : W.cell? ⟨h, 0, none⟩ = some (.bool true) := HX.out.cell 0
  have c3 : W.cell? ⟨h, 3, none⟩ = some (.slice none 0 0) := HX.out.cell 3
  go_wp2_with fail
  refine (HO.out W HG.out).mono ?_
  rintro e w2 ⟨g2, ho⟩
  have G2 := Lib.hid (Gr.trans HG.out g2)
  have GW := Lib.hid g2
  clear g2
  unfold RetOpenR
  cases hq : sealedL key l
  · rw [hq] at ho
    replace ho : e = .returned (.tuple #[.slice none 0 0, .int .i64 11]) := by simpa using ho
    subst ho
    have HQ : Hid (¬ sealedL key l = true) := by show ¬ _; rw [hq]; decide
    clear hq
    go_wp2_with fail
    go_ret2
    exact ⟨G2.out, by rw [if_neg HQ.out]; rfl⟩
  · rw [hq, if_pos rfl] at ho
    obtain ⟨v, rfl, o⟩ := ho
    have O := Lib.hid (o.base HG.out); have HQ := Lib.hid hq
    clear hq o
    go_wp2_with fail
    go_ret2
    exact ⟨G2.out, by rw [if_pos HQ.out]; exact ⟨v, rfl, O.out⟩⟩
set_option maxRecDepth 100000 in
theorem xCheck_any (A B C : Option Addr) (n c d m b q e0 : Nat) (l s : List UInt8) (w : World) (hl : Bs w B m b l) (hs : Bs w C q e0 s) :
    Calls Tryz.prog 70 #[xv A n c d, .slice B m b, .slice C q e0] w fun e w' => e = .returned (.bool (crcL l == s)) ∧ Gr w w' := by
  unfold xv
  show Calls _ _ #[.agg #[.bool true, .slice A n c, .int .i64 (d : Int), .slice none 0 0, .slice none 0 0], _, _] _ _
  have HC := Lib.hid (fun W (hW : Gr w W) => refCrcBytes_any B m b l W (hl.mono hW))
  have HS := Lib.hid hs
  clear hl hs
  obtain ⟨W, hW⟩ : ∃ W, W = xw1 w A n c d := ⟨_, rfl⟩
  have HX := Lib.hid (xw1_a w A n c d); have HG := Lib.hid (xw1_g w A n c d)
  rw [← hW] at HX HG
  unfold xw1 at hW
  have HW := Lib.hid hW
  clear hW
  go_enter Tryz.func70, Tryz.ntmps70
  go_upto_region 1 with fail
  rw [← HW.out]
  obtain ⟨h, hh⟩ : ∃ h, h = w.heap.size := ⟨_, rfl⟩
  rw [← hh] at HX ⊢
  have HH := Lib.hid hh; clear hh
  have c0 : W.cell? ⟨h, 0, none⟩ = some (.bool true) := HX.out.cell 0
  have c3 : W.cell? ⟨h, 3, none⟩ = some (.slice none 0 0) := HX.out.cell 3
  go_wp2_with fail
  refine (HC.out W HG.out).mono ?_
  rintro e w1 ⟨v1, rfl, o1⟩
  obtain ⟨A1, c1, rfl, s1⟩ := o1.slice
  have G1 := Lib.hid (Gr.trans HG.out o1.below)
  have HE := Lib.hid (refSame_any A1 C _ q c1 e0 (crcL l) s w1 s1 (HS.out.mono G1.out))
  clear o1 s1
  go_wp2_with fail
  refine HE.out.mono ?_
  rintro e w2 ⟨rfl, k2, rfl⟩
  go_wp2_with fail
  go_ret
  exact ⟨rfl, belowN G1.out k2⟩
set_option maxRecDepth 100000 in
theorem xFind_any (A B : Option Addr) (n c d m b : Nat) (w : World) :
    Calls Tryz.prog 30 #[xv A n c d, .slice B m b] w fun e w' => e = .returned (.slice none 0 0) ∧ Gr w w' := by
  unfold xv
  show Calls _ _ #[.agg #[.bool true, .slice A n c, .int .i64 (d : Int), .slice none 0 0, .slice none 0 0], _] _ _
  obtain ⟨W, hW⟩ : ∃ W, W = xw1 w A n c d := ⟨_, rfl⟩
  have HX := Lib.hid (xw1_a w A n c d); have HG := Lib.hid (xw1_g w A n c d)
  rw [← hW] at HX HG
  unfold xw1 at hW
  have HW := Lib.hid hW
  clear hW
  go_enter Tryz.func30, Tryz.ntmps30
  go_upto_region 1 with fail
  rw [← HW.out]
  obtain ⟨h, hh⟩ : ∃ h, h = w.heap.size := ⟨_, rfl⟩
  rw [← hh] at HX ⊢
  have HH := Lib.hid hh; clear hh
  have c0 : W.cell? ⟨h, 0, none⟩ = some (.bool true) := HX.out.cell 0
  have c3 : W.cell? ⟨h, 3, none⟩ = some (.slice none 0 0) := HX.out.cell 3
  go_wp2_with fail
  refine wp_loop_rounds 1 ?_
  rw [rounds_succ]
  go_wp2_with fail
  go_ret
  exact ⟨rfl, HG.out⟩
set_option maxRecDepth 100000 in
theorem xTerm_any (A B : Option Addr) (n c d m b : Nat) (l : List UInt8) (w : World) (hl : Bs w B m b l) :
    Calls Tryz.prog 31 #[xv A n c d, .slice B m b] w fun e w' => e = .returned (.int .i64 0) ∧ Gr w w' := by
  unfold xv
  show Calls _ _ #[.agg #[.bool true, .slice A n c, .int .i64 (d : Int), .slice none 0 0, .slice none 0 0], _] _ _
  have hcp := hl.cap; have hmx := hl.max
  by_cases h32 : m = 32
  · subst h32
    obtain ⟨bb, oo, rfl, hcc⟩ := hl.addr (by omega)
    have hsub : Bs w (some ⟨bb, oo + 8, none⟩) 8 (b - 8) ((l.drop 8).take 8) := by
      have h1 := hl.from (A' := some ⟨bb, oo + 8, none⟩) (k := 8) (by omega) (fun _ b' o' e => by injection e with e; injection e with e1 e2; subst e1 e2; rfl)
      have h2 := h1.upto (k := 8) (by omega)
      rwa [← List.map_drop, ← List.map_take] at h2
    have hx := run_8to16 bb oo 32 b (by omega)
    have HGT := Lib.hid (fun W (hW : Gr w W) => refGet_yes (some ⟨bb, oo + 8, none⟩) 8 (b - 8) ((l.drop 8).take 8) W (hsub.mono hW) (by decide) (by decide))
    clear hsub hcc hl
    obtain ⟨W, hW⟩ : ∃ W, W = xw1 w A n c d := ⟨_, rfl⟩
    have HX := Lib.hid (xw1_a w A n c d); have HG := Lib.hid (xw1_g w A n c d)
    rw [← hW] at HX HG
    unfold xw1 at hW
    have HW := Lib.hid hW
    clear hW
    go_enter Tryz.func31, Tryz.ntmps31
    go_upto_region 1 with fail
    rw [← HW.out]
    obtain ⟨h, hh⟩ : ∃ h, h = w.heap.size := ⟨_, rfl⟩
    rw [← hh] at HX ⊢
    have HH := Lib.hid hh; clear hh
    have c0 : W.cell? ⟨h, 0, none⟩ = some (.bool true) := HX.out.cell 0
    have c3 : W.cell? ⟨h, 3, none⟩ = some (.slice none 0 0) := HX.out.cell 3
    go_wp2_with fail
    refine (HGT.out W HG.out).mono ?_
    rintro e w1 ⟨rfl, h1⟩
    rw [← h1]
    clear h1 w1
    go_wp2_with fail
    go_ret
    exact ⟨rfl, HG.out⟩
  · have t1 : ((m : Int) != 32) = true := by rw [bne_iff_ne]; omega
    clear hl
    obtain ⟨W, hW⟩ : ∃ W, W = xw1 w A n c d := ⟨_, rfl⟩
    have HX := Lib.hid (xw1_a w A n c d); have HG := Lib.hid (xw1_g w A n c d)
    rw [← hW] at HX HG
    unfold xw1 at hW
    have HW := Lib.hid hW
    clear hW
    go_enter Tryz.func31, Tryz.ntmps31
    go_upto_region 1 with fail
    rw [← HW.out]
    obtain ⟨h, hh⟩ : ∃ h, h = w.heap.size := ⟨_, rfl⟩
    rw [← hh] at HX ⊢
    have HH := Lib.hid hh; clear hh
    have c0 : W.cell? ⟨h, 0, none⟩ = some (.bool true) := HX.out.cell 0
    have c3 : W.cell? ⟨h, 3, none⟩ = some (.slice none 0 0) := HX.out.cell 3
    go_wp2_with fail
    go_ret
    exact ⟨rfl, HG.out⟩
end Go.Proofs.YtcfbbgbjlgonpaaGreatDoor
