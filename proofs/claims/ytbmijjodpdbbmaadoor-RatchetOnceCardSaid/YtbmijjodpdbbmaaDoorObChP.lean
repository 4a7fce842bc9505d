import Derived.Test.YtbmijjodpdbbmaaDoorObChO
import Derived.Test.YtbmijjodpdbbmaaDoorObInts
namespace Go.Proofs.YtbmijjodpdbbmaaDoor
open Go.RowKit
set_option linter.unusedVariables false

/-! ### RatchetOnce -/
/-- The chain's memory lies apart from v's own block. -/
def ApartC (v : Value) (h : Nat) (A B : Option Addr) (n : Nat) (M : List Wr) : Prop := v.ownBlock ≠ some h ∧ Apart v ⟨A, n, 0, []⟩ ∧ Apart v ⟨B, M.length, 0, []⟩ ∧ ∀ x ∈ M, Apart v x.r
theorem ApartC.nil (h : Nat) (A B : Option Addr) (n : Nat) (M : List Wr) : ApartC (.slice none 0 0) h A B n M := ⟨fun e => (by cases e), Apart.nil _, Apart.nil _, fun x _ => Apart.nil _⟩
def OnceMid (w : World) (h : Nat) (win : Int) (key : List UInt8) (k : Nat) (v : Value) (W : World) : Prop :=
  ∃ (T : List Int) (p : Nat) (A B : Option Addr) (n c d : Nat) (M : List Wr), Own w W 3 1 v T.length (T.map i64c) ∧ Blk W h 30 [.int .i64 (p : Int), .slice A n c, .slice B M.length d] ∧ n ≤ 50000 ∧ Bs W A n c (chainL key p) ∧ Wrs W B M.length d M ∧ InvO key p T (M.map Wr.kk) ∧ p ≤ 41 ∧ (M.length : Int) ≤ win ∧ T.length ≤ k ∧ ApartC v h A B n M
theorem Sl.keepN {w w' : World} {A : Option Addr} {n c s : Nat} {xs : List Value} (h : Sl w A n c s xs) (hp : 0 < n → ∀ b o, A = some ⟨b, o, none⟩ → w'.heap[b]? = w.heap[b]?) : Sl w' A n c s xs := by
  rcases Nat.eq_zero_or_pos n with h0 | h0
  · exact ⟨h.1, h.2.1, h.2.2.1, fun h => absurd h (by omega)⟩
  · exact Sl.keepB h (hp h0)
theorem Own.keepN {w0 w w' : World} {e : TypeId} {s n : Nat} {v : Value} {xs : List Value} (h : Own w0 w e s v n xs) (hb : Below w0.heap.size w0 w') (hp : ∀ b, v.ownBlock = some b → w'.heap[b]? = w.heap[b]?) : Own w0 w' e s v n xs := by
  obtain ⟨⟨hl, ho⟩, _⟩ := h
  refine ⟨⟨hl, ?_⟩, hb⟩
  rcases ho with h | ⟨g, cap, cur, hv, hg, hh, r⟩
  · exact .inl h
  · exact .inr ⟨g, cap, cur, hv, hg, by rw [hp g (by rw [hv]; rfl)]; exact hh, r⟩
set_option maxRecDepth 100000 in
set_option maxHeartbeats 4000000 in
theorem ratchetOnce_walk (E A : Option Addr) (q r n c : Nat) (win : Int) (key : List UInt8) (l : List Int) (w : World) (hkey : Bs w E q r key) (hl : Is w A n c l) (hK : ShaK w) (hw : -9223372036854775808 ≤ win ∧ win ≤ 9223372036854775807) :
    Calls Tryd.prog 4 #[.slice E q r, .slice A n c, .int .i64 win] w fun e w' => e = .returned (.bool true) ∧ Below w.heap.size w w' := by
  have hq1 := hkey.cap; have hq2 := hkey.max
  have hn1 := hl.cap; have hn2 := hl.max
  obtain ⟨wl1, wl2⟩ := hw
  have HAL : Hid (∀ W, Below w.heap.size w W → Calls Tryd.prog 11 #[] W fun e w' => e = .returned (.bool true) ∧ Below W.heap.size W w') := fun W hW => alive33 W (hK.mono hW)
  have HZ : Hid (4 < w.heap.size) := hK.lt
  have HKEY := Lib.hid hkey; have HLL := Lib.hid hl; have HK := Lib.hid hK
  clear hkey hl hK
  by_cases hq : 100 < q
  · skip
    go_enter Tryd.func4, Tryd.ntmps4
    go_wp2_with fail
    refine (HAL.out w (Below.refl _ _)).mono ?_
    rintro e w1 ⟨rfl, b1⟩
    have B1 := Lib.hid b1; clear b1
    go_wp2_with fail
    go_ret
    exact ⟨rfl, B1.out⟩
  by_cases hn : 20 < n
  · skip
    go_enter Tryd.func4, Tryd.ntmps4
    go_wp2_with fail
    refine (HAL.out w (Below.refl _ _)).mono ?_
    rintro e w1 ⟨rfl, b1⟩
    have B1 := Lib.hid b1; clear b1
    go_wp2_with fail
    go_ret
    exact ⟨rfl, B1.out⟩
  by_cases h1 : win < 1
  · skip
    go_enter Tryd.func4, Tryd.ntmps4
    go_wp2_with fail
    refine (HAL.out w (Below.refl _ _)).mono ?_
    rintro e w1 ⟨rfl, b1⟩
    have B1 := Lib.hid b1; clear b1
    go_wp2_with fail
    go_ret
    exact ⟨rfl, B1.out⟩
  by_cases h2 : 8 < win
  · skip
    go_enter Tryd.func4, Tryd.ntmps4
    go_wp2_with fail
    refine (HAL.out w (Below.refl _ _)).mono ?_
    rintro e w1 ⟨rfl, b1⟩
    have B1 := Lib.hid b1; clear b1
    go_wp2_with fail
    go_ret
    exact ⟨rfl, B1.out⟩
  have RN : Hid (∀ W : World, Below w.heap.size w W → Calls Tryd.prog 13 #[.slice none 0 0] W fun e w' => ∃ g, e = .returned (.pointer (some ⟨g, 0, none⟩)) ∧ RealS w' g ∧ Below W.heap.size W w' ∧ W.heap.size ≤ g) := fun W hW => realNil_any W (by have := hW.size; have := HZ.out; omega)
  have HKL := Lib.hid (Bs.len HKEY.out)
  have HSTA := Lib.hid (fun W hW => start_any E q r key W (hW : Bs W E q r key) (by omega))
  go_enter Tryd.func4, Tryd.ntmps4
  go_wp2_with fail
  refine (RN.out w (Below.refl _ _)).mono ?_
  rintro e w2 ⟨gs, rfl, r2, b2, g2⟩
  have R2 := Lib.hid r2; have B2 := Lib.hid b2; clear r2 b2 g2
  go_wp2_with fail
  refine (HSTA.out w2 (HKEY.out.mono B2.out)).mono ?_
  rintro e w3 ⟨A3, c3, v3, M3, rfl, s3, o3, f3, k3, fa3, b3⟩
  obtain ⟨B3, d3, rfl, wr3⟩ := o3.wrs
  have hM : M3 = [] := List.map_eq_nil_iff.1 k3
  subst hM
  rw [HKL.out] at s3
  rw [HKL.out]
  have B3' := Lib.hid (below_both B2.out b3); have WR3 := Lib.hid wr3; have S3 := Lib.hid s3; have R3 := Lib.hid (R2.out.mono b3)
  have LH : Hid (w.heap.size ≤ w3.heap.size) := B3'.out.size
  clear s3 o3 f3 k3 fa3 b3 wr3
  go_wp2_with fail
  have AL : Hid (∀ (W : World) o, Below W.heap.size W (W.alloc o)) := fun W o => (Below.refl _ _).alloc (Nat.le_refl _) _
  go_loopw [9, 10] (fun v i wr => ∃ k : Nat, k ≤ n ∧ i = .int .i64 (k : Int) ∧ OnceMid w3 w3.heap.size win key k v wr) (fun _ i _ => n - (intOf i).toNat)
  case atStart =>
    exact ⟨0, Nat.zero_le _, rfl, ⟨[], 0, A3, B3, q, c3, d3, [], Own.nil' (AL.out _ _) _ _, Blk.new w3 _ _, by omega, S3.out.mono (AL.out _ _), WR3.out.mono (AL.out _ _), InvO.start key, by omega, by simp; omega, by simp, ApartC.nil _ _ _ _ _⟩⟩
  case round =>
    obtain ⟨k, hk, rfl, ⟨T, p, A4, B4, n4, c4, d4, M, own, bk, hn4, s4, wr4, inv, hp, hml, htk, apc⟩⟩ := hrel
    have OWN := Lib.hid own; have BK := Lib.hid bk; have S4 := Lib.hid s4; have WR4 := Lib.hid wr4; have INV := Lib.hid inv; have APC := Lib.hid apc; have R4 := Lib.hid (R3.out.mono own.below); have HML := Lib.hid hml; have HTK := Lib.hid htk; have HN4 := Lib.hid hn4
    have BWR : Hid (Below w.heap.size w wr) := below_both B3'.out own.below
    clear own bk s4 wr4 inv apc hml htk hn4
    obtain ⟨A9, c9, rfl, sl9⟩ := OWN.out.slice
    have S9 := Lib.hid sl9; clear sl9
    by_cases hlt : k < n
    · obtain ⟨bb, oo, rfl, hcc⟩ := Is.addr HLL.out (show 0 < n by omega)
      have hlt2 : (k : Int) < n := by omega
      have CE : Hid (∀ W, Below w.heap.size w W → W.cell? ⟨bb, oo + k, none⟩ = some (.int .i64 (iAt l k))) := fun W hW => (hW.cell (World.block_lt_of_cell? w _ (hcc k hlt))).trans (hcc k hlt)
      clear hcc
      generalize iAt l k = g at *
      have c2 := CE.out wr BWR.out
      by_cases hg0 : g < 0
      · go_wp2_with (go_at_call 11; refine (HAL.out wr BWR.out).mono ?_; rintro e w' ⟨rfl, b1⟩; have B1 := Lib.hid (below_both BWR.out b1); clear b1)
        go_ret
        exact ⟨rfl, B1.out⟩
      by_cases hg : 40 < g
      · go_wp2_with (go_at_call 11; refine (HAL.out wr BWR.out).mono ?_; rintro e w' ⟨rfl, b1⟩; have B1 := Lib.hid (below_both BWR.out b1); clear b1)
        go_ret
        exact ⟨rfl, B1.out⟩
      have HCH : Hid (∀ wq, Gr wr wq → wq.cell? ⟨w3.heap.size, 0, none⟩ = some (.int .i64 (p : Int)) ∧ wq.cell? ⟨w3.heap.size, 1, none⟩ = some (.slice A4 n4 c4) ∧ wq.cell? ⟨w3.heap.size, 2, none⟩ = some (.slice B4 M.length d4)) := fun wq hq => ⟨(hq.blk BK.out).cell 0, (hq.blk BK.out).cell 1, (hq.blk BK.out).cell 2⟩
      have HHAS : Hid (∀ wq, Gr wr wq → Calls Tryd.prog 20 #[.agg #[.int .i64 (p : Int), .slice A4 n4 c4, .slice B4 M.length d4], .int .i64 g] wq fun e w' => e = .returned (.bool (hasP p (M.map Wr.kk) g)) ∧ Gr wq w') := fun wq hq => (has_any p A4 B4 n4 c4 M.length d4 M g wq (WR4.out.mono hq)).mono (by
        rintro e w' ⟨rfl, b'⟩
        exact ⟨by rw [hasP, ← idxK_kk]; rfl, b'⟩)
      have HAT : Hid (∀ wq, Gr wr wq → Calls Tryd.prog 21 #[.pointer (some ⟨gs, 0, none⟩), .agg #[.int .i64 (p : Int), .slice A4 n4 c4, .slice B4 M.length d4], .int .i64 g, .int .i64 win] wq (RetOnce wq win key p T (M.map Wr.kk) g)) := fun wq hq => atOnce_any gs key p A4 B4 n4 c4 d4 M T g win wq (R4.out.mono hq) (S4.out.mono hq) HN4.out (WR4.out.mono hq) INV.out hp (by omega) (by omega) (by omega) (by omega) HML.out (HK.out.mono (below_both BWR.out hq))
      go_upto_region 11 with fail
      refine wp_region_grow (by kernel_rfl) [0, 0, 0, 6, 14, 31, 63] [.p 1, .p 2, .p 3, .q 0, .q 4, .c 5, .p 6] (by kernel_rfl) (trivial) ?_
      clear c2
      refine wpG_pe rfl rfl ?_
      apply Exists.intro
      refine ⟨fun wq => ?_, ?_⟩
      · unfold plainAt
        go_simp
        first | exact rfl | exact ⟨rfl, rfl⟩
      go_simp
      refine wpG_pe rfl rfl ?_
      apply Exists.intro
      refine ⟨fun wq => ?_, ?_⟩
      · unfold plainAt
        go_simp
        first | exact rfl | exact ⟨rfl, rfl⟩
      go_simp
      refine wpG_pe rfl rfl ?_
      apply Exists.intro
      refine ⟨fun wq => ?_, ?_⟩
      · unfold plainAt
        go_simp
        first | exact rfl | exact ⟨rfl, rfl⟩
      go_simp
      refine wpG_qe rfl rfl ?_
      apply Exists.intro
      refine ⟨fun wq hq => ?_, ?_⟩
      · obtain ⟨z0, z1, z2⟩ := HCH.out wq ((Gr.drew _).trans hq)
        unfold plainAt
        go_simp
        first | exact rfl | exact ⟨rfl, rfl⟩
      go_simp
      refine wpG_qe rfl rfl ?_
      apply Exists.intro
      refine ⟨fun wq hq => ?_, ?_⟩
      · have c2 := CE.out wq (below_both BWR.out ((Gr.drew _).trans hq))
        unfold plainAt
        go_simp
        first | exact rfl | exact ⟨rfl, rfl⟩
      go_simp
      refine wpG_c rfl rfl ?_
      intro w5 g5 K hK
      go_simp
      go_at_call 20
      refine (HHAS.out w5 ((Gr.drew _).trans g5)).mono ?_
      rintro e wn ⟨rfl, g6⟩
      refine hK _ _ g6 ?_; have G6 := Lib.hid ((((Gr.drew wr).trans g5).trans g6)); clear g5 g6 hK
      go_simp
      refine wpG_pe rfl rfl ?_
      apply Exists.intro
      refine ⟨fun wq => ?_, ?_⟩
      · unfold plainAt
        go_simp
        first | exact rfl | exact ⟨rfl, rfl⟩
      go_simp
      refine wpG_nil ?_
      intro w7 g7
      have G7 := Lib.hid (G6.out.trans g7); clear g7 G6
      go_wp2_with fail
      refine wp_region_grow (by kernel_rfl) [0, 0, 0, 0, 12, 28, 0, 127, 255, 511, 511, 511, 0, 5119, 14335, 32767] [.p 0, .p 2, .p 3, .p 4, .p 6, .q 1, .q 5, .c 7, .p 8, .p 9, .p 10, .p 11, .m 12 30 #[.int .i64 0, .slice none 0 0, .slice none 0 0], .p 13, .s 14, .p 15] (by kernel_rfl) (⟨fun o ho ρ w => by cases ho; kernel_rfl, trivial⟩) ?_
      have G8 : Hid (Gr wr w7.drew) := G7.out.trans (Gr.drew _)
      refine wpG_pe rfl rfl ?_
      apply Exists.intro
      refine ⟨fun wq => ?_, ?_⟩
      · unfold plainAt
        go_simp
        first | exact rfl | exact ⟨rfl, rfl⟩
      go_simp
      refine wpG_pe rfl rfl ?_
      apply Exists.intro
      refine ⟨fun wq => ?_, ?_⟩
      · unfold plainAt
        go_simp
        first | exact rfl | exact ⟨rfl, rfl⟩
      go_simp
      refine wpG_pe rfl rfl ?_
      apply Exists.intro
      refine ⟨fun wq => ?_, ?_⟩
      · unfold plainAt
        go_simp
        first | exact rfl | exact ⟨rfl, rfl⟩
      go_simp
      refine wpG_pe rfl rfl ?_
      apply Exists.intro
      refine ⟨fun wq => ?_, ?_⟩
      · unfold plainAt
        go_simp
        first | exact rfl | exact ⟨rfl, rfl⟩
      go_simp
      refine wpG_pe rfl rfl ?_
      apply Exists.intro
      refine ⟨fun wq => ?_, ?_⟩
      · unfold plainAt
        go_simp
        first | exact rfl | exact ⟨rfl, rfl⟩
      go_simp
      refine wpG_qe rfl rfl ?_
      apply Exists.intro
      refine ⟨fun wq hq => ?_, ?_⟩
      · obtain ⟨z0, z1, z2⟩ := HCH.out wq (G8.out.trans hq)
        unfold plainAt
        go_simp
        first | exact rfl | exact ⟨rfl, rfl⟩
      go_simp
      refine wpG_qe rfl rfl ?_
      apply Exists.intro
      refine ⟨fun wq hq => ?_, ?_⟩
      · have c2 := CE.out wq (below_both BWR.out (G8.out.trans hq))
        unfold plainAt
        go_simp
        first | exact rfl | exact ⟨rfl, rfl⟩
      go_simp
      refine wpG_c rfl rfl ?_
      intro w9 g9 K hK
      go_simp
      go_at_call 21
      refine (HAT.out w9 (G8.out.trans g9)).mono ?_
      rintro e w10 (⟨f, hf, ⟨rfl, b10⟩, hf1, hf2⟩ | ⟨p', K', ⟨A5, c5, A6, c6, v6, M6, rfl, s5, s6, o6, f6, k6, fa6, b10⟩, hp1, ht1, hp2, hk2, inv2, hp3⟩)
      · refine hK _ _ b10 ?_
        clear hK
        have G10 := Lib.hid ((G8.out.trans g9).trans b10); clear b10 g9
        go_simp
        refine wpG_pe rfl rfl ?_
        apply Exists.intro
        refine ⟨fun wq => ?_, ?_⟩
        · unfold plainAt
          go_simp
          first | exact rfl | exact ⟨rfl, rfl⟩
        go_simp
        refine wpG_pe rfl rfl ?_
        apply Exists.intro
        refine ⟨fun wq => ?_, ?_⟩
        · unfold plainAt
          go_simp
          first | exact rfl | exact ⟨rfl, rfl⟩
        go_simp
        refine wpG_pe rfl rfl ?_
        apply Exists.intro
        refine ⟨fun wq => ?_, ?_⟩
        · unfold plainAt
          go_simp
          first | exact rfl | exact ⟨rfl, rfl⟩
        go_simp
        refine wpG_pe rfl rfl ?_
        apply Exists.intro
        refine ⟨fun wq => ?_, ?_⟩
        · unfold plainAt
          go_simp
          first | exact rfl | exact ⟨rfl, rfl⟩
        go_simp
        refine wpG_m rfl rfl ?_
        intro w11 b g11 hb hblk hI
        go_simp
        refine wpG_pe rfl rfl ?_
        apply Exists.intro
        refine ⟨fun wq => ?_, ?_⟩
        · unfold plainAt
          go_simp
          first | exact rfl | exact ⟨rfl, rfl⟩
        go_simp
        refine wpG_s rfl rfl ?_
        intro w12 g12 K hK
        refine wp_store_row 30 (.tmp 13) (.tmp 70) rfl b _ rfl rfl 30 #[.int .i64 0, .slice none 0 0, .slice none 0 0] (g12.blk hblk) chSize rfl (chOne _ _ _ _ _ _ _) ?_
        refine hK _ _ ?_
        clear hK
        obtain ⟨W12, hW12⟩ : ∃ W12, W12 = w12.setRow b #[.int .i64 (0), .slice none 0 0, .slice none 0 0] := ⟨_, rfl⟩
        go_simp
        rw [← hW12]
        have HW12 := Lib.hid hW12; clear hW12
        refine wpG_pe rfl rfl ?_
        apply Exists.intro
        refine ⟨fun wq => ?_, ?_⟩
        · unfold plainAt
          go_simp
          first | exact rfl | exact ⟨rfl, rfl⟩
        go_simp
        refine wpG_nil ?_
        intro w13 g13
        have G13 : Hid (Gr wr w13) := (show Gr wr W12 from by rw [HW12.out]; exact below_row (G10.out.trans (g11.trans g12)) (by have := G7.out.size; omega) _).trans g13
        clear HW12 hblk hI g11 g12 g13 hb
        have c2 := CE.out w13 (below_both BWR.out G13.out)
        have HRH : Hid (∀ W, Gr wr W → Calls Tryd.prog 22 #[.slice A9 T.length c9, .int .i64 g] W fun e w' => e = .returned (.bool (T.contains g)) ∧ W = w') := fun W hW => refHas_any A9 T.length c9 T g W (S9.out.mono hW)
        have REL : Hid (OnceMid w3 w3.heap.size win key (k + 1) (.slice A9 T.length c9) w13) := ⟨T, p, A4, B4, n4, c4, d4, M, OWN.out.mono G13.out, G13.out.blk BK.out, HN4.out, S4.out.mono G13.out, WR4.out.mono G13.out, INV.out, hp, HML.out, by have := HTK.out; omega, APC.out⟩
        rcases hf with rfl | rfl
        · have hwas : hasP (p : Int) (M.map Wr.kk) g = false := by simpa using hf1
          rw [hwas]
          clear hf1 hf2 hwas
          cases hx : T.contains g
          all_goals
            rw [hx] at HRH
            clear hx
            go_wp2_with (go_at_call 22; refine (HRH.out _ G13.out).mono ?_; rintro e w' ⟨rfl, rfl⟩)
            go_roundw
            case rel => exact ⟨k + 1, by omega, by go_num, REL.out⟩
            case measure => simp [intOf]; omega
        · have hwas : hasP (p : Int) (M.map Wr.kk) g = true := by simpa using hf1
          rw [hwas]
          rw [hf2 (by decide)] at HRH
          clear hf1 hf2 hwas
          go_wp2_with (go_at_call 22; refine (HRH.out _ G13.out).mono ?_; rintro e w' ⟨rfl, rfl⟩)
          go_roundw
          case rel => exact ⟨k + 1, by omega, by go_num, REL.out⟩
          case measure => simp [intOf]; omega
      · refine hK _ _ b10 ?_
        clear hK
        have G10 := Lib.hid ((G8.out.trans g9).trans b10)
        rw [hp1]
        rw [deriveL_len] at s5 ⊢
        obtain ⟨B6, d6, rfl, wr6⟩ := o6.wrs
        have hml6 : (M6.length : Int) ≤ win := by
          have := congrArg List.length k6
          rw [List.length_map] at this
          omega
        obtain ⟨cl, hcl⟩ : ∃ cl, cl = (chainL key p').length := ⟨_, rfl⟩
        rw [← hcl] at s6 ⊢
        have hcl2 : cl ≤ 50000 := by rw [hcl, chainL_len]; have := HKL.out; split <;> omega
        have IV6 : Hid (0 < cl → ∀ b o, A6 = some ⟨b, o, none⟩ → w9.heap.size ≤ b ∧ b < w10.heap.size) := fun h0 b o e => ⟨fa6 b o e, Bs.lt (r := ⟨A6, cl, c6, chainL key p'⟩) s6 h0 b o e⟩
        have IVR : Hid (∀ x ∈ M6, 0 < x.r.n → ∀ b o, x.r.a = some ⟨b, o, none⟩ → w9.heap.size ≤ b ∧ b < w10.heap.size) := fun x hx h0 b o e => ⟨f6 x hx b o h0 e, Bs.lt (o6.2 x hx).1.1 h0 b o e⟩
        have IVB : Hid (∀ b o, B6 = some ⟨b, o, none⟩ → w9.heap.size ≤ b ∧ b < w10.heap.size) := fun b o e => o6.1.1.lt b (by rw [e]; rfl)
        have G9 := Lib.hid (G8.out.trans g9)
        have S5 := Lib.hid s5; have S6 := Lib.hid s6; have W6 := Lib.hid wr6; have K6 := Lib.hid k6; have HCL := Lib.hid hcl2
        clear s5 s6 o6 f6 k6 fa6 wr6 b10 g9 hcl hcl2 hp1
        go_simp
        refine wpG_pe rfl rfl ?_
        apply Exists.intro
        refine ⟨fun wq => ?_, ?_⟩
        · unfold plainAt
          go_simp
          first | exact rfl | exact ⟨rfl, rfl⟩
        go_simp
        refine wpG_pe rfl rfl ?_
        apply Exists.intro
        refine ⟨fun wq => ?_, ?_⟩
        · unfold plainAt
          go_simp
          first | exact rfl | exact ⟨rfl, rfl⟩
        go_simp
        refine wpG_pe rfl rfl ?_
        apply Exists.intro
        refine ⟨fun wq => ?_, ?_⟩
        · unfold plainAt
          go_simp
          first | exact rfl | exact ⟨rfl, rfl⟩
        go_simp
        refine wpG_pe rfl rfl ?_
        apply Exists.intro
        refine ⟨fun wq => ?_, ?_⟩
        · unfold plainAt
          go_simp
          first | exact rfl | exact ⟨rfl, rfl⟩
        go_simp
        refine wpG_m rfl rfl ?_
        intro w11 b g11 hb hblk hI
        go_simp
        refine wpG_pe rfl rfl ?_
        apply Exists.intro
        refine ⟨fun wq => ?_, ?_⟩
        · unfold plainAt
          go_simp
          first | exact rfl | exact ⟨rfl, rfl⟩
        go_simp
        refine wpG_s rfl rfl ?_
        intro w12 g12 K hK
        refine wp_store_row 30 (.tmp 13) (.tmp 70) rfl b _ rfl rfl 30 #[.int .i64 0, .slice none 0 0, .slice none 0 0] (g12.blk hblk) chSize rfl (chOne _ _ _ _ _ _ _) ?_
        refine hK _ _ ?_
        clear hK
        obtain ⟨W12, hW12⟩ : ∃ W12, W12 = w12.setRow b #[.int .i64 (p'), .slice A6 cl c6, .slice B6 M6.length d6] := ⟨_, rfl⟩
        go_simp
        rw [← hW12]
        have HW12 := Lib.hid hW12; clear hW12
        refine wpG_pe rfl rfl ?_
        apply Exists.intro
        refine ⟨fun wq => ?_, ?_⟩
        · unfold plainAt
          go_simp
          first | exact rfl | exact ⟨rfl, rfl⟩
        go_simp
        refine wpG_nil ?_
        intro w13 g13
        have hw79 : w7.heap.size ≤ b := hb
        have KS13 : Hid (w10.heap.size ≤ w13.heap.size) := by
          have h1 := (below_row (Below.mono (g11.trans g12) (Nat.zero_le _)) (Nat.zero_le b) #[.int .i64 (p' : Int), .slice A6 cl c6, .slice B6 M6.length d6]).size
          rw [← HW12.out] at h1
          exact Nat.le_trans h1 g13.size
        have KD13 : Hid (∀ bl, w9.heap.size ≤ bl → bl < w10.heap.size → w13.heap[bl]? = w10.heap[bl]?) := fun bl h1 h2 => by
          have hne : bl ≠ b := by rcases hI _ List.mem_cons_self with h | h <;> simp only at h <;> omega
          have e1 : W12.heap[bl]? = w10.heap[bl]? := by rw [HW12.out]; exact (setRow_other w12 b bl _ hne).trans ((g11.trans g12).block bl h2)
          have : bl < W12.heap.size := by
            have h3 := (Array.getElem?_eq_some_iff.1 (Array.getElem?_eq_getElem h2)).1
            have e2 := e1
            rw [Array.getElem?_eq_getElem h2] at e2
            exact (Array.getElem?_eq_some_iff.1 e2).1
          exact (g13.block bl this).trans e1
        have G13 : Hid (Gr wr w13) := (show Gr wr W12 from by rw [HW12.out]; exact below_row (G10.out.trans (g11.trans g12)) (by have := G7.out.size; omega) _).trans g13
        have BN13 : Hid (Blk w13 b 30 [.int .i64 (p' : Int), .slice A6 cl c6, .slice B6 M6.length d6]) := g13.blk (by rw [HW12.out]; exact setRow_heap w12 b _ _ _ _ (g12.blk hblk))
        have S513 : Hid (Bs w13 A5 32 c5 (deriveL (chainL key g.toNat) keyS)) := (Bs.keepC' (w' := W12) (S5.out.mono (g11.trans g12)) (g12.blk hblk) (fun bl _ hn => by rw [HW12.out]; exact setRow_other w12 b bl _ hn)).mono g13
        have HBW : Hid (wr.heap.size ≤ b) := by have := G7.out.size; show _ ≤ _; omega
        clear HW12 hblk hI g11 g12 g13 hb hw79
        have WR13 : Hid (Wrs w13 B6 M6.length d6 M6) := ⟨rfl, Sl.keepN W6.out.2.1 (fun _ bl o e => KD13.out bl (IVB.out bl o e).1 (IVB.out bl o e).2), fun x hx => ⟨Sl.keepN (W6.out.2.2 x hx).1 (fun h0 bl o e => KD13.out bl (IVR.out x hx h0 bl o e).1 (IVR.out x hx h0 bl o e).2), (W6.out.2.2 x hx).2⟩⟩
        have c2 := CE.out w13 (below_both BWR.out G13.out)
        have HRH : Hid (∀ W, Gr wr W → Calls Tryd.prog 22 #[.slice A9 T.length c9, .int .i64 g] W fun e w' => e = .returned (.bool false) ∧ W = w') := fun W hW => by have := refHas_any A9 T.length c9 T g W (S9.out.mono hW); rw [ht1] at this; exact this
        go_wp2_with (go_at_call 22; refine (HRH.out _ G13.out).mono ?_; rintro e w' ⟨rfl, rfl⟩)
        clear c2
        have hle : (win < (M6.length : Int)) = False := by rw [eq_iff_iff, iff_false]; omega
        have HKY : Hid (∀ W, Gr wr W → Calls Tryd.prog 23 #[.slice E q r, .int .i64 g] W fun e w' => ∃ A' c', e = .returned (.slice A' 32 c') ∧ Bs w' A' 32 c' (deriveL (chainL key g.toNat) keyS) ∧ Gr W w') := fun W hW => by
          have := refKey33_any E q r key g.toNat W (HKEY.out.mono (below_both BWR.out hW)) (by omega) (by omega)
          rw [Int.toNat_of_nonneg (by omega)] at this
          refine this.mono ?_
          rintro e w' ⟨A', c', rfl, s', b'⟩
          rw [deriveL_len] at s' ⊢
          exact ⟨A', c', rfl, s', b'⟩
        have HSM : Hid (∀ W A' c', Gr w13 W → Bs W A' 32 c' (deriveL (chainL key g.toNat) keyS) → Calls Tryd.prog 16 #[.slice A5 32 c5, .slice A' 32 c'] W fun e w' => e = .returned (.bool true) ∧ Gr W w') := fun W A' c' hW hs => (refSame_b A5 A' 32 32 c5 c' _ _ W (S513.out.mono hW) hs).mono (by
          rintro e w' ⟨rfl, b'⟩
          exact ⟨ret_bool (beq_self_eq_true _), b'⟩)
        have HHN : Hid (∀ W, Gr w13 W → Calls Tryd.prog 20 #[.agg #[.int .i64 (p' : Int), .slice A6 cl c6, .slice B6 M6.length d6], .int .i64 g] W fun e w' => e = .returned (.bool false) ∧ Gr W w') := fun W hW => (has_any p' A6 B6 cl c6 M6.length d6 M6 g W (WR13.out.mono hW)).mono (by
          rintro e w' ⟨rfl, b'⟩
          refine ⟨ret_bool ?_, b'⟩
          rw [← hp2, ← K6.out, hasP, ← idxK_kk]
          rfl)
        have HCB : Hid (∀ wq, Gr w13 wq → wq.cell? ⟨b, 0, none⟩ = some (.int .i64 (p' : Int)) ∧ wq.cell? ⟨b, 1, none⟩ = some (.slice A6 cl c6) ∧ wq.cell? ⟨b, 2, none⟩ = some (.slice B6 M6.length d6)) := fun wq hq => ⟨(hq.blk BN13.out).cell 0, (hq.blk BN13.out).cell 1, (hq.blk BN13.out).cell 2⟩
        have GD : Hid (Gr w13 w13.drew) := Gr.drew _
        refine wp_region_grow (by kernel_rfl) [0, 0, 0, 0, 12, 28, 62, 127, 255, 511, 1023, 2047, 4095, 1023, 16383, 32767, 65535, 131071, 131071, 131071, 917503, 1966079, 4194303, 8388607] [.p 0, .p 1, .p 2, .p 3, .p 4, .q 5, .c 6, .c 7, .p 8, .p 9, .p 10, .p 13, .q 11, .p 12, .p 14, .p 15, .p 16, .p 18, .p 19, .p 20, .q 17, .q 21, .c 22, .p 23] (by kernel_rfl) (trivial) ?_
        refine wpG_pe rfl rfl ?_
        apply Exists.intro
        refine ⟨fun wq => ?_, ?_⟩
        · unfold plainAt
          go_simp
          first | exact rfl | exact ⟨rfl, rfl⟩
        go_simp
        refine wpG_pe rfl rfl ?_
        apply Exists.intro
        refine ⟨fun wq => ?_, ?_⟩
        · unfold plainAt
          go_simp
          first | exact rfl | exact ⟨rfl, rfl⟩
        go_simp
        refine wpG_pe rfl rfl ?_
        apply Exists.intro
        refine ⟨fun wq => ?_, ?_⟩
        · unfold plainAt
          go_simp
          first | exact rfl | exact ⟨rfl, rfl⟩
        go_simp
        refine wpG_pe rfl rfl ?_
        apply Exists.intro
        refine ⟨fun wq => ?_, ?_⟩
        · unfold plainAt
          go_simp
          first | exact rfl | exact ⟨rfl, rfl⟩
        go_simp
        refine wpG_pe rfl rfl ?_
        apply Exists.intro
        refine ⟨fun wq => ?_, ?_⟩
        · unfold plainAt
          go_simp
          first | exact rfl | exact ⟨rfl, rfl⟩
        go_simp
        refine wpG_qe rfl rfl ?_
        apply Exists.intro
        refine ⟨fun wq hq => ?_, ?_⟩
        · have c2 := CE.out wq (below_both BWR.out (G13.out.trans (GD.out.trans hq)))
          unfold plainAt
          go_simp
          first | exact rfl | exact ⟨rfl, rfl⟩
        go_simp
        refine wpG_c rfl rfl ?_
        intro w14 g14 K hK
        go_simp
        go_at_call 23
        refine (HKY.out w14 (G13.out.trans (GD.out.trans g14))).mono ?_
        rintro e wn ⟨A15, c15, rfl, s15, g15⟩
        refine hK _ _ g15 ?_; have G15 := Lib.hid ((GD.out.trans g14).trans g15); have S15 := Lib.hid s15; clear g14 g15 s15 hK
        go_simp
        refine wpG_c rfl rfl ?_
        intro w16 g16 K hK
        go_simp
        go_at_call 16
        refine (HSM.out w16 A15 c15 (G15.out.trans g16) (S15.out.mono g16)).mono ?_
        rintro e wn ⟨rfl, g17⟩
        refine hK _ _ g17 ?_; have G17 := Lib.hid ((G15.out.trans g16).trans g17); clear g16 g17 hK
        go_simp
        refine wpG_pe rfl rfl ?_
        apply Exists.intro
        refine ⟨fun wq => ?_, ?_⟩
        · unfold plainAt
          go_simp
          first | exact rfl | exact ⟨rfl, rfl⟩
        go_simp
        refine wpG_pe rfl rfl ?_
        apply Exists.intro
        refine ⟨fun wq => ?_, ?_⟩
        · unfold plainAt
          go_simp
          first | exact rfl | exact ⟨rfl, rfl⟩
        go_simp
        refine wpG_pe rfl rfl ?_
        apply Exists.intro
        refine ⟨fun wq => ?_, ?_⟩
        · unfold plainAt
          go_simp
          first | exact rfl | exact ⟨rfl, rfl⟩
        go_simp
        refine wpG_pe rfl rfl ?_
        apply Exists.intro
        refine ⟨fun wq => ?_, ?_⟩
        · unfold plainAt
          go_simp
          first | exact rfl | exact ⟨rfl, rfl⟩
        go_simp
        refine wpG_qe rfl rfl ?_
        apply Exists.intro
        refine ⟨fun wq hq => ?_, ?_⟩
        · obtain ⟨z0, z1, z2⟩ := HCB.out wq (G17.out.trans hq)
          unfold plainAt
          go_simp
          first | exact rfl | exact ⟨rfl, rfl⟩
        go_simp
        refine wpG_pe rfl rfl ?_
        apply Exists.intro
        refine ⟨fun wq => ?_, ?_⟩
        · unfold plainAt
          go_simp
          first | exact rfl | exact ⟨rfl, rfl⟩
        go_simp
        refine wpG_pe rfl rfl ?_
        apply Exists.intro
        refine ⟨fun wq => ?_, ?_⟩
        · unfold plainAt
          go_simp
          first | exact rfl | exact ⟨rfl, rfl⟩
        go_simp
        refine wpG_pe rfl rfl ?_
        apply Exists.intro
        refine ⟨fun wq => ?_, ?_⟩
        · unfold plainAt
          go_simp
          first | exact rfl | exact ⟨rfl, rfl⟩
        go_simp
        refine wpG_pe rfl rfl ?_
        apply Exists.intro
        refine ⟨fun wq => ?_, ?_⟩
        · unfold plainAt
          go_simp
          first | exact rfl | exact ⟨rfl, rfl⟩
        go_simp
        refine wpG_pe rfl rfl ?_
        apply Exists.intro
        refine ⟨fun wq => ?_, ?_⟩
        · unfold plainAt
          go_simp
          first | exact rfl | exact ⟨rfl, rfl⟩
        go_simp
        refine wpG_pe rfl rfl ?_
        apply Exists.intro
        refine ⟨fun wq => ?_, ?_⟩
        · unfold plainAt
          go_simp
          first | exact rfl | exact ⟨rfl, rfl⟩
        go_simp
        refine wpG_pe rfl rfl ?_
        apply Exists.intro
        refine ⟨fun wq => ?_, ?_⟩
        · unfold plainAt
          go_simp
          first | exact rfl | exact ⟨rfl, rfl⟩
        go_simp
        refine wpG_qe rfl rfl ?_
        apply Exists.intro
        refine ⟨fun wq hq => ?_, ?_⟩
        · obtain ⟨z0, z1, z2⟩ := HCB.out wq (G17.out.trans hq)
          unfold plainAt
          go_simp
          first | exact rfl | exact ⟨rfl, rfl⟩
        go_simp
        refine wpG_qe rfl rfl ?_
        apply Exists.intro
        refine ⟨fun wq hq => ?_, ?_⟩
        · have c2 := CE.out wq (below_both BWR.out (G13.out.trans (G17.out.trans hq)))
          unfold plainAt
          go_simp
          first | exact rfl | exact ⟨rfl, rfl⟩
        go_simp
        refine wpG_c rfl rfl ?_
        intro w18 g18 K hK
        go_simp
        go_at_call 20
        refine (HHN.out w18 (G17.out.trans g18)).mono ?_
        rintro e wn ⟨rfl, g19⟩
        refine hK _ _ g19 ?_; have G19 := Lib.hid ((G17.out.trans g18).trans g19); clear g18 g19 hK
        go_simp
        refine wpG_pe rfl rfl ?_
        apply Exists.intro
        refine ⟨fun wq => ?_, ?_⟩
        · unfold plainAt
          go_simp
          first | exact rfl | exact ⟨rfl, rfl⟩
        go_simp
        refine wpG_nil ?_
        intro w20 g20
        have G20 : Hid (Gr w13 w20) := G19.out.trans g20
        clear g20
        have c2 := CE.out w20 (below_both BWR.out (G13.out.trans G20.out))
        have LT9 : Hid (∀ bl, (Value.slice A9 T.length c9).ownBlock = some bl → bl < wr.heap.size) := fun bl e => (OWN.out.1.lt bl e).2
        have NB9 : Hid ((Value.slice A9 T.length c9).ownBlock ≠ some b) := fun e => by have := LT9.out b e; have := HBW.out; omega
        have hT20 : T.length ≤ 20 := by have := HTK.out; omega
        go_wp2_with (first
          | (at_builtin; refine wpList_pushG rfl (.tmp 115) (.tmp 120) 42 rfl tNums rfl (OWN.out.mono (G13.out.trans G20.out)) #[.int .i64 g] rfl rfl (one_int _ _) (by omega) ?_; intro v21 w21 own21 kept21; obtain ⟨A21, c21, rfl, sl21⟩ := own21.slice; have O21 := Lib.hid own21; have KP : Hid (Kept (w20.alloc (.cells #[.int .i64 g] 3)) w21 (.slice A9 T.length c9) (.slice A21 (T.length + 1) c21)) := kept21; have BN21 : Hid (Blk w21 b 30 [.int .i64 (p' : Int), .slice A6 cl c6, .slice B6 M6.length d6]) := (kept21.1 _ ((G20.out.blk BN13.out).alloc _).lt NB9.out).trans ((G20.out.blk BN13.out).alloc _); have BH21 : Hid (Blk w21 w3.heap.size 30 [.int .i64 (p : Int), .slice A4 n4 c4, .slice B4 M.length d4]) := (kept21.1 _ (((G13.out.trans G20.out).blk BK.out).alloc _).lt APC.out.1).trans (((G13.out.trans G20.out).blk BK.out).alloc _); have z0 : w21.cell? ⟨b, 0, none⟩ = some (.int .i64 (p' : Int)) := (BN21.out.cell 0).trans rfl; have z1 : w21.cell? ⟨b, 1, none⟩ = some (.slice A6 cl c6) := (BN21.out.cell 1).trans rfl; have z2 : w21.cell? ⟨b, 2, none⟩ = some (.slice B6 M6.length d6) := (BN21.out.cell 2).trans rfl; clear own21 kept21 sl21 c2)
          | (refine wpList_store_ch rfl (.tmp 8) (.tmp 122) rfl w3.heap.size (p' : Int) A6 B6 cl c6 M6.length d6 rfl rfl BH21.out ?_))
        obtain ⟨W22, hW22⟩ : ∃ W22, W22 = w21.setRow w3.heap.size #[.int .i64 (p' : Int), .slice A6 cl c6, .slice B6 M6.length d6] := ⟨_, rfl⟩
        rw [← hW22]
        have OT22 : ∀ bl, bl ≠ w3.heap.size → W22.heap[bl]? = w21.heap[bl]? := fun bl hb => by rw [hW22]; exact setRow_other w21 w3.heap.size bl _ hb
        have BH22 : Blk W22 w3.heap.size 30 [.int .i64 (p' : Int), .slice A6 cl c6, .slice B6 M6.length d6] := by rw [hW22]; exact setRow_heap w21 w3.heap.size _ _ _ _ BH21.out
        have hlh : w3.heap.size < wr.heap.size := BK.out.lt
        have hl9 : wr.heap.size ≤ w9.heap.size := G9.out.size
        have hsz : w20.heap.size = w20.heap.size := rfl
        have hw10 := KS13.out
        have hw20 : w10.heap.size ≤ w20.heap.size := Nat.le_trans hw10 G20.out.size
        have NBI : ∀ bl, w9.heap.size ≤ bl → (Value.slice A9 T.length c9).ownBlock ≠ some bl := fun bl h e => by have := LT9.out bl e; omega
        have KD22 : ∀ bl, w9.heap.size ≤ bl → bl < w10.heap.size → W22.heap[bl]? = w10.heap[bl]? := fun bl h1 h2 => by
          rw [OT22 bl (by omega), KP.out.1 bl (by simp; omega) (NBI bl h1)]
          exact ((G20.out.trans (Gr.alloc w20 _)).block bl (by omega)).trans (KD13.out bl h1 h2)
        have hOB : ∀ bl, (Value.slice A21 (T.length + 1) c21).ownBlock = some bl → (Value.slice A9 T.length c9).ownBlock = some bl ∨ w20.heap.size ≤ bl := fun bl e => by
          rcases KP.out.2.2 with h | h
          · left; rw [← h]; exact e
          · right
            rw [h] at e
            injection e with e
            rw [← e]
            simp
        have hNH : (Value.slice A21 (T.length + 1) c21).ownBlock ≠ some w3.heap.size := fun e => by
          rcases hOB _ e with h | h
          · exact APC.out.1 h
          · have := G13.out.size; have := G20.out.size; omega
        have hNI : ∀ bl, w9.heap.size ≤ bl → bl < w10.heap.size → (Value.slice A21 (T.length + 1) c21).ownBlock ≠ some bl := fun bl h1 h2 e => by
          rcases hOB _ e with h | h
          · exact NBI bl h1 h
          · omega
        have hBW : Below w3.heap.size w3 W22 := by
          rw [hW22]
          exact below_row O21.out.below (Nat.le_refl _) _
        have hAP : ApartC (.slice A21 (T.length + 1) c21) w3.heap.size A6 B6 cl M6 := by
          refine ⟨hNH, fun bl o h0 e => ?_, fun bl o h0 e => ?_, fun x hx bl o h0 e => ?_⟩
          · exact hNI bl (IV6.out h0 bl o e).1 (IV6.out h0 bl o e).2
          · exact hNI bl (IVB.out bl o e).1 (IVB.out bl o e).2
          · exact hNI bl (IVR.out x hx h0 bl o e).1 (IVR.out x hx h0 bl o e).2
        have hMID : OnceMid w3 w3.heap.size win key (k + 1) (.slice A21 (T.length + 1) c21) W22 := by
          refine ⟨T ++ [g], p', A6, B6, cl, c6, d6, M6, ?_, BH22, HCL.out, Sl.keepN S6.out (fun h0 bl o e => KD22 bl (IV6.out h0 bl o e).1 (IV6.out h0 bl o e).2), ⟨rfl, Sl.keepN W6.out.2.1 (fun _ bl o e => KD22 bl (IVB.out bl o e).1 (IVB.out bl o e).2), fun x hx => ⟨Sl.keepN (W6.out.2.2 x hx).1 (fun h0 bl o e => KD22 bl (IVR.out x hx h0 bl o e).1 (IVR.out x hx h0 bl o e).2), (W6.out.2.2 x hx).2⟩⟩, by rw [K6.out]; exact inv2, hp3, hml6, by rw [List.length_append]; have := HTK.out; simp; omega, hAP⟩
          rw [List.length_append, List.map_append]
          exact O21.out.keepN hBW (fun bl e => OT22 bl (fun h => hNH (by rw [e, h])))
        clear hW22 OT22
        first
          | exact ⟨⟨k + 1, by omega, by go_num, hMID⟩, by simp [intOf]; omega⟩
          | (refine ⟨⟨k + 1, by omega, by go_num, hMID⟩, ?_⟩; simp [intOf]; omega)
    · obtain rfl : k = n := by omega
      go_wp2_with (go_at_call 11; refine (HAL.out wr BWR.out).mono ?_; rintro e w' ⟨rfl, b1⟩; have B1 := Lib.hid (below_both BWR.out b1); clear b1)
      go_ret
      exact ⟨rfl, B1.out⟩
end Go.Proofs.YtbmijjodpdbbmaaDoor
