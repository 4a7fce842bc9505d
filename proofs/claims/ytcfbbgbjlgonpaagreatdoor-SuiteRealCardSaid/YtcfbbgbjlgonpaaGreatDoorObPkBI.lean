/- Own texts of this claim, one behind the other. No condition. -/
import Derived.Test.YtcfbbgbjlgonpaaGreatDoorObPkAQ
import Derived.Test.YtcfbbgbjlgonpaaGreatDoorObPkBH

/- The reference of layer 11: Words. No condition. -/
namespace Go.Proofs.YtcfbbgbjlgonpaaGreatDoor
open Go.RowKit
set_option linter.unusedVariables false
set_option linter.unusedSimpArgs false
/-- In a round of Words: the result's block, the words' block, the block of the word that is turned. -/
structure WMid (w : World) (h gX : Nat) (M X : List UInt8) (W : World) : Prop where
  gr : Gr w W
  a : By W h 191 (List.replicate 240 0)
  b : By W (h + 1) 191 M
  x : By W gX 190 X
theorem WMid.mono {w W W' : World} {h gX : Nat} {M X : List UInt8} (q : WMid w h gX M X W) (g : Gr W W') : WMid w h gX M X W' := ⟨q.gr.trans g, g.blk q.a, g.blk q.b, g.blk q.x⟩
theorem WMid.putX {w W : World} {h gX : Nat} {M X : List UInt8} (q : WMid w h gX M X W) (hw : w.heap.size ≤ h) (hg : h + 1 < gX) (k : Nat) (v : UInt8) : WMid w h gX M (X.set k v) (W.setCell ⟨gX, k, none⟩ (.int .u8 (ub v))) :=
  ⟨q.gr.setCell (p := ⟨gX, k, none⟩) (by show w.heap.size ≤ gX; omega) _, (Below.heap_setCell _ ⟨gX, k, none⟩ _ h (by show h ≠ gX; omega)).trans q.a, (Below.heap_setCell _ ⟨gX, k, none⟩ _ (h + 1) (by show h + 1 ≠ gX; omega)).trans q.b, q.x.put k v⟩
theorem WMid.rowX {w W : World} {h gX : Nat} {M X X' : List UInt8} (q : WMid w h gX M X W) (hw : w.heap.size ≤ h) (hg : h + 1 < gX) : WMid w h gX M X' (W.setRow gX (X'.map u8c).toArray) :=
  ⟨byRow_below q.gr (by omega) _, (setRow_other W gX h _ (by omega)).trans q.a, (setRow_other W gX (h + 1) _ (by omega)).trans q.b, q.x.row⟩
theorem WMid.putB {w W : World} {h gX : Nat} {M X : List UInt8} (q : WMid w h gX M X W) (hw : w.heap.size ≤ h) (hg : h + 1 < gX) (k : Nat) (v : UInt8) : WMid w h gX (M.set k v) X (W.setCell ⟨h + 1, k, none⟩ (.int .u8 (ub v))) :=
  ⟨q.gr.setCell (p := ⟨h + 1, k, none⟩) (by show w.heap.size ≤ h + 1; omega) _, (Below.heap_setCell _ ⟨h + 1, k, none⟩ _ h (by show h ≠ h + 1; omega)).trans q.a, q.b.put k v, (Below.heap_setCell _ ⟨h + 1, k, none⟩ _ gX (by show gX ≠ h + 1; omega)).trans q.x⟩
def KMid (w : World) (h : Nat) (key : List UInt8) (t : Nat) (W : World) : Prop := Gr w W ∧ By W h 191 (List.replicate 240 0) ∧ By W (h + 1) 191 (memS key t)
theorem take4 {l : List UInt8} {d : Nat} (h : d + 4 ≤ l.length) : (l.drop d).take 4 = [gB l d, gB l (d + 1), gB l (d + 2), gB l (d + 3)] := by
  have e : ∀ i, i < l.length → gB l i = l.getD i 0 := fun _ _ => rfl
  unfold gB
  rw [List.drop_eq_getElem_cons (by omega), List.drop_eq_getElem_cons (by omega), List.drop_eq_getElem_cons (by omega), List.drop_eq_getElem_cons (by omega)]
  simp only [List.take_succ_cons, List.take_zero, List.getD_eq_getElem?_getD]
  rw [List.getElem?_eq_getElem (by omega), List.getElem?_eq_getElem (by omega), List.getElem?_eq_getElem (by omega), List.getElem?_eq_getElem (by omega)]
  rfl
set_option maxRecDepth 100000 in
set_option maxHeartbeats 8000000 in
theorem refKeyWords_any (A : Option Addr) (c : Nat) (key : List UInt8) (w : World) (hb : Bs w A 32 c key) :
    Calls Tryz.prog 192 #[.slice A 32 c] w fun e w' => e = .returned (arr (schedL key)) ∧ Gr w w' := by
  have hkl : key.length = 32 := hb.len
  have hc := hb.cap; have hmx := hb.max
  obtain ⟨b, o, rfl, hcell⟩ := Sl.addr hb (by decide)
  have HK := Lib.hid hkl; have HB := Lib.hid hb
  have LK : Hid (∀ W, Gr w W → ∀ j, j < 32 → W.cell? ⟨b, o + j, none⟩ = some (.int .u8 (ub (gB key j)))) := fun W hW j hj => by
    have := hcell j (.int .u8 (bAt key j)) (by rw [u8c_at (by omega)])
    exact (hW.cell (p := ⟨b, o + j, none⟩) (World.block_lt_of_cell? w _ this)).trans this
  clear hb hcell hkl
  unfold arr
  go_enter Tryz.func192, Tryz.ntmps192
  go_upto_region 1 with fail
  obtain ⟨W1, hW1⟩ : ∃ W1, W1 = w.alloc (.cells Tryz.zeroCells191 191) := ⟨_, rfl⟩
  rw [← hW1]
  have HZ1 : Hid (By W1 w.heap.size 191 (List.replicate 240 0)) := by rw [hW1]; exact heap_alloc_new w _
  have HG1 : Hid (Gr w W1) := by rw [hW1]; exact Gr.alloc _ _
  have HS1 : Hid (W1.heap.size = w.heap.size + 1) := by show _ = _; rw [hW1]; simp
  clear hW1
  go_upto_region 2 with fail
  obtain ⟨W2, hW2⟩ : ∃ W2, W2 = W1.alloc (.cells Tryz.zeroCells191 191) := ⟨_, rfl⟩
  rw [← hW2, HS1.out]
  have HZ2 : Hid (By W2 (w.heap.size + 1) 191 (memS key 0)) := by
    rw [← HS1.out, hW2]
    exact heap_alloc_new W1 _
  have HG2 : Hid (Gr W1 W2) := by rw [hW2]; exact Gr.alloc _ _
  obtain ⟨h, hh⟩ : ∃ h, h = w.heap.size := ⟨_, rfl⟩
  rw [← hh] at HZ2 HZ1 ⊢
  have HH := Lib.hid hh; clear hh hW2 HS1
  have MID0 : Hid (KMid w h key 0 W2) := ⟨HG1.out.trans HG2.out, HG2.out.blk HZ1.out, HZ2.out⟩
  clear HG1 HG2 HZ1 HZ2
  go_wp2_with fail
  go_loopw [4] (fun i wr => ∃ t : Nat, t ≤ 60 ∧ i = .int .i64 (t : Int) ∧ KMid w h key t wr) (fun i _ => 60 - (Go.RowKit.intOf i).toNat)
  case atStart => exact ⟨0, Nat.zero_le _, rfl, MID0.out⟩
  case round =>
    obtain ⟨t, ht, rfl, g, ha, hb⟩ := hrel
    have GR := Lib.hid g; have HA := Lib.hid ha; have HB2 := Lib.hid hb
    have p0 : (0 : Int) ≤ t := by omega
    have HM := Lib.hid (memS_len HK.out ht)
    by_cases hlt : t < 60
    · have t0 : decide ((t : Int) < 60) = true := decide_eq_true (by omega)
      have pt : (t : Int) < 60 := by omega
      by_cases h8 : t < 8
      · have t1 : decide ((t : Int) < 8) = true := decide_eq_true (by omega)
        have HWD : Hid (wordS key (wS key t) t = (key.drop (4 * t)).take 4) := by show wordS key (wS key t) t = _; unfold wordS; rw [if_pos h8]
        have HWL := Lib.hid (wordS_len (W := wS key t) (t := t) HK.out)
        clear g ha hb
        go_upto_region 6 with fail
        obtain ⟨d, hd⟩ : ∃ d : Nat, d = 4 * t := ⟨_, rfl⟩
        have w0 : IntKind.i64.wrap (4 * (t : Int)) = (d : Int) := by rw [IntWalk.i64_in _ (by omega)]; omega
        have w1 : IntKind.i64.wrap ((d : Int) + 1) = ((d + 1 : Nat) : Int) := by rw [IntWalk.i64_in _ (by omega)]; omega
        have w2 : IntKind.i64.wrap ((d : Int) + 2) = ((d + 2 : Nat) : Int) := by rw [IntWalk.i64_in _ (by omega)]; omega
        have w3 : IntKind.i64.wrap ((d : Int) + 3) = ((d + 3 : Nat) : Int) := by rw [IntWalk.i64_in _ (by omega)]; omega
        have b0 : d < 32 := by omega
        have b1 : d + 1 < 32 := by omega
        have b2 : d + 2 < 32 := by omega
        have b3 : d + 3 < 32 := by omega
        have n0 : (0 : Int) ≤ d := by omega
        have n1 : (0 : Int) ≤ ((d + 1 : Nat) : Int) := by omega
        have n2 : (0 : Int) ≤ ((d + 2 : Nat) : Int) := by omega
        have n3 : (0 : Int) ≤ ((d + 3 : Nat) : Int) := by omega
        have m0 : (d : Int) < 32 := by omega
        have m1 : ((d + 1 : Nat) : Int) < 32 := by omega
        have m2 : ((d + 2 : Nat) : Int) < 32 := by omega
        have m3 : ((d + 3 : Nat) : Int) < 32 := by omega
        obtain ⟨d1, hd1⟩ : ∃ q, q = d + 1 := ⟨_, rfl⟩
        obtain ⟨d2, hd2⟩ : ∃ q, q = d + 2 := ⟨_, rfl⟩
        obtain ⟨d3, hd3⟩ : ∃ q, q = d + 3 := ⟨_, rfl⟩
        rw [← hd1] at w1 b1 n1 m1
        rw [← hd2] at w2 b2 n2 m2
        rw [← hd3] at w3 b3 n3 m3
        have HF : Hid (wordS key (wS key t) t = [gB key d, gB key d1, gB key d2, gB key d3]) := by show _ = _; rw [HWD.out, take4 (by rw [HK.out]; omega), hd1, hd2, hd3, hd]
        clear hd hd1 hd2 hd3
        refine wp_region_grow (by kernel_rfl) [0, 0, 0, 4, 14, 30, 0, 0, 128, 384, 960, 1984, 0, 0, 8192, 24576, 61440, 126976, 0, 0, 524288, 1572864, 3932160, 8126464, 16777214, 33554431, 67108863] [.p 0, .p 1, .p 2, .p 3, .p 4, .p 6, .p 7, .p 8, .p 9, .p 10, .p 12, .p 13, .p 14, .p 15, .p 16, .p 18, .p 19, .p 20, .p 21, .p 22, .q 5, .q 11, .q 17, .q 23, .p 24, .p 25, .s 26] (by kernel_rfl) (trivial) ?_
        refine wpG_pe rfl rfl ?_
        apply Exists.intro
        refine ⟨fun wq => ?_, ?_⟩
        · unfold plainAt
          go_simp
          first | exact rfl | exact ⟨rfl, rfl⟩
        go_simp
        refine wpG_pe rfl rfl ?_
        apply Exists.intro
        refine ⟨fun wq => ?_, ?_⟩
        · unfold plainAt
          go_simp
          first | exact rfl | exact ⟨rfl, rfl⟩
        go_simp
        refine wpG_pe rfl rfl ?_
        apply Exists.intro
        refine ⟨fun wq => ?_, ?_⟩
        · unfold plainAt
          go_simp
          first | exact rfl | exact ⟨rfl, rfl⟩
        go_simp
        refine wpG_pe rfl rfl ?_
        apply Exists.intro
        refine ⟨fun wq => ?_, ?_⟩
        · unfold plainAt
          go_simp
          first | exact rfl | exact ⟨rfl, rfl⟩
        go_simp
        refine wpG_pe rfl rfl ?_
        apply Exists.intro
        refine ⟨fun wq => ?_, ?_⟩
        · unfold plainAt
          go_simp
          first | exact rfl | exact ⟨rfl, rfl⟩
        go_simp
        refine wpG_pe rfl rfl ?_
        apply Exists.intro
        refine ⟨fun wq => ?_, ?_⟩
        · unfold plainAt
          go_simp
          first | exact rfl | exact ⟨rfl, rfl⟩
        go_simp
        refine wpG_pe rfl rfl ?_
        apply Exists.intro
        refine ⟨fun wq => ?_, ?_⟩
        · unfold plainAt
          go_simp
          first | exact rfl | exact ⟨rfl, rfl⟩
        go_simp
        refine wpG_pe rfl rfl ?_
        apply Exists.intro
        refine ⟨fun wq => ?_, ?_⟩
        · unfold plainAt
          go_simp
          first | exact rfl | exact ⟨rfl, rfl⟩
        go_simp
        refine wpG_pe rfl rfl ?_
        apply Exists.intro
        refine ⟨fun wq => ?_, ?_⟩
        · unfold plainAt
          go_simp
          first | exact rfl | exact ⟨rfl, rfl⟩
        go_simp
        refine wpG_pe rfl rfl ?_
        apply Exists.intro
        refine ⟨fun wq => ?_, ?_⟩
        · unfold plainAt
          go_simp
          first | exact rfl | exact ⟨rfl, rfl⟩
        go_simp
        refine wpG_pe rfl rfl ?_
        apply Exists.intro
        refine ⟨fun wq => ?_, ?_⟩
        · unfold plainAt
          go_simp
          first | exact rfl | exact ⟨rfl, rfl⟩
        go_simp
        refine wpG_pe rfl rfl ?_
        apply Exists.intro
        refine ⟨fun wq => ?_, ?_⟩
        · unfold plainAt
          go_simp
          first | exact rfl | exact ⟨rfl, rfl⟩
        go_simp
        refine wpG_pe rfl rfl ?_
        apply Exists.intro
        refine ⟨fun wq => ?_, ?_⟩
        · unfold plainAt
          go_simp
          first | exact rfl | exact ⟨rfl, rfl⟩
        go_simp
        refine wpG_pe rfl rfl ?_
        apply Exists.intro
        refine ⟨fun wq => ?_, ?_⟩
        · unfold plainAt
          go_simp
          first | exact rfl | exact ⟨rfl, rfl⟩
        go_simp
        refine wpG_pe rfl rfl ?_
        apply Exists.intro
        refine ⟨fun wq => ?_, ?_⟩
        · unfold plainAt
          go_simp
          first | exact rfl | exact ⟨rfl, rfl⟩
        go_simp
        refine wpG_pe rfl rfl ?_
        apply Exists.intro
        refine ⟨fun wq => ?_, ?_⟩
        · unfold plainAt
          go_simp
          first | exact rfl | exact ⟨rfl, rfl⟩
        go_simp
        refine wpG_pe rfl rfl ?_
        apply Exists.intro
        refine ⟨fun wq => ?_, ?_⟩
        · unfold plainAt
          go_simp
          first | exact rfl | exact ⟨rfl, rfl⟩
        go_simp
        refine wpG_pe rfl rfl ?_
        apply Exists.intro
        refine ⟨fun wq => ?_, ?_⟩
        · unfold plainAt
          go_simp
          first | exact rfl | exact ⟨rfl, rfl⟩
        go_simp
        refine wpG_pe rfl rfl ?_
        apply Exists.intro
        refine ⟨fun wq => ?_, ?_⟩
        · unfold plainAt
          go_simp
          first | exact rfl | exact ⟨rfl, rfl⟩
        go_simp
        refine wpG_pe rfl rfl ?_
        apply Exists.intro
        refine ⟨fun wq => ?_, ?_⟩
        · unfold plainAt
          go_simp
          first | exact rfl | exact ⟨rfl, rfl⟩
        go_simp
        refine wpG_qe rfl rfl ?_
        apply Exists.intro
        refine ⟨fun wq hq => ?_, ?_⟩
        · have c0 := LK.out wq (GR.out.trans ((Gr.drew _).trans hq)) d b0
          unfold plainAt
          go_simp
          first | exact rfl | exact ⟨rfl, rfl⟩
        go_simp
        refine wpG_qe rfl rfl ?_
        apply Exists.intro
        refine ⟨fun wq hq => ?_, ?_⟩
        · have c0 := LK.out wq (GR.out.trans ((Gr.drew _).trans hq)) d1 b1
          unfold plainAt
          go_simp
          first | exact rfl | exact ⟨rfl, rfl⟩
        go_simp
        refine wpG_qe rfl rfl ?_
        apply Exists.intro
        refine ⟨fun wq hq => ?_, ?_⟩
        · have c0 := LK.out wq (GR.out.trans ((Gr.drew _).trans hq)) d2 b2
          unfold plainAt
          go_simp
          first | exact rfl | exact ⟨rfl, rfl⟩
        go_simp
        refine wpG_qe rfl rfl ?_
        apply Exists.intro
        refine ⟨fun wq hq => ?_, ?_⟩
        · have c0 := LK.out wq (GR.out.trans ((Gr.drew _).trans hq)) d3 b3
          unfold plainAt
          go_simp
          first | exact rfl | exact ⟨rfl, rfl⟩
        go_simp
        refine wpG_pe rfl rfl ?_
        apply Exists.intro
        refine ⟨fun wq => ?_, ?_⟩
        · unfold plainAt
          go_simp
          first | exact rfl | exact ⟨rfl, rfl⟩
        go_simp
        refine wpG_pe rfl rfl ?_
        apply Exists.intro
        refine ⟨fun wq => ?_, ?_⟩
        · unfold plainAt
          go_simp
          first | exact rfl | exact ⟨rfl, rfl⟩
        go_simp
        refine wpG_s rfl rfl ?_
        intro w7 g7 K hK
        have HB7 : Hid (By w7 (h + 1) 191 (memS key t)) := ((Gr.drew _).trans g7).blk HB2.out
        have HA7 : Hid (By w7 h 191 (List.replicate 240 0)) := ((Gr.drew _).trans g7).blk HA.out
        have HG7 : Hid (Gr w w7) := GR.out.trans ((Gr.drew _).trans g7)
        have HTH := Lib.hid (By.there HB7.out (4 * t) 4 (by rw [HM.out]; omega))
        refine wp_store_mid 190 (.tmp 39) (.tmp 38) rfl (h + 1) (t * 4) ((wordS key (wS key t) t).map u8c).toArray rfl (by rw [HF.out]; rfl) (by rw [arr_size, HWL.out, Nat.mul_comm]; exact HTH.out) (size4 _ HWL.out) (arr_one _) ?_
        refine hK _ _ ?_
        clear hK
        obtain ⟨W8, hW8⟩ : ∃ W8, W8 = w7.setCells (h + 1) (t * 4) ((wordS key (wS key t) t).map u8c).toArray.toList := ⟨_, rfl⟩
        have MID8 : Hid (KMid w h key (t + 1) W8) := by
          rw [hW8, List.toList_toArray]
          refine ⟨setCells_below (h + 1) (by rw [HH.out]; exact Nat.le_succ _) _ _ _ HG7.out, (setCells_other (h + 1) _ _ _ h (by omega)).trans HA7.out, ?_⟩
          rw [← memS_next HK.out hlt, Nat.mul_comm t 4]
          have := By.puts (wordS key (wS key t) t) w7 _ (4 * t) HB7.out (by rw [HM.out, HWL.out]; omega)
          rw [HWL.out] at this
          exact this
        rw [← hW8]
        clear hW8 g7 HB7 HA7 HG7 HTH
        go_simp
        refine wpG_nil ?_
        intro w9 g9
        have MID9 : Hid (KMid w h key (t + 1) w9) := ⟨MID8.out.1.trans g9, g9.blk MID8.out.2.1, g9.blk MID8.out.2.2⟩
        clear g9 MID8 w0 w1 w2 w3
        go_wp2_with fail
        go_roundw
        case rel => exact ⟨t + 1, by omega, by go_num, MID9.out⟩
        case measure => simp [Go.RowKit.intOf]; omega
      · have t1 : decide ((t : Int) < 8) = false := decide_eq_false (by omega)
        obtain ⟨p, hp⟩ : ∃ p, t = p + 1 := ⟨t - 1, by omega⟩
        obtain ⟨q, hq⟩ : ∃ q, t = q + 8 := ⟨t - 8, by omega⟩
        have e1 : (t : Int) - 1 = (p : Int) := by omega
        have e2 : (t : Int) - 8 = (q : Int) := by omega
        have e2w : IntKind.i64.wrap ((t : Int) - 8) = (q : Int) := by rw [IntWalk.i64_in _ (by omega)]; exact e2
        have e2v : IntKind.i64.wrap (q : Int) = (q : Int) := IntWalk.i64_in _ (by omega)
        have p1 : (0 : Int) ≤ p := by omega
        have p2 : (0 : Int) ≤ q := by omega
        have p3 : (p : Int) < 60 := by omega
        have p4 : (q : Int) < 60 := by omega
        obtain ⟨X, hX⟩ : ∃ X, X = ((wS key t).drop (4 * p)).take 4 := ⟨_, rfl⟩
        obtain ⟨Y, hY⟩ : ∃ Y, Y = ((wS key t).drop (4 * q)).take 4 := ⟨_, rfl⟩
        have hWL := wS_len HK.out t
        have HXL : Hid (X.length = 4) := by show _ = _; rw [hX, List.length_take, List.length_drop, hWL]; omega
        have HYL : Hid (Y.length = 4) := by show _ = _; rw [hY, List.length_take, List.length_drop, hWL]; omega
        have HRX : Hid (wr.rangeAt (h + 1) (p * 4) (X.map u8c)) := by
          have := hb.range (4 * p) 4
          rw [memS_word HK.out (by omega), ← hX] at this
          rw [Nat.mul_comm p 4]
          exact this
        obtain ⟨V, hV⟩ : ∃ V, V = wordS key (wS key t) t := ⟨_, rfl⟩
        have HVE : Hid (V = wordS key (wS key t) t) := hV
        have HVL : Hid (V.length = 4) := by show _ = _; rw [hV]; exact wordS_len HK.out
        have HYN : Hid (∀ n, n < 4 → ∀ m, m ≤ 4 → gB (memN (memS key t) V (4 * t) m) (q * 4 + n) = gB Y n) := fun n hn m hm => by
          rw [hY]
          unfold memN gB
          rw [List.append_assoc, List.getD_eq_getElem?_getD, List.getElem?_append_left (by rw [List.length_take, HM.out]; omega), List.getElem?_take, if_pos (by omega), List.getD_eq_getElem?_getD, List.getElem?_take, if_pos hn, List.getElem?_drop]
          unfold memS
          rw [List.getElem?_append_left (by rw [hWL]; omega), Nat.mul_comm q 4]
        have HWV0 : Hid (∀ n, n < 4 → gB V n = gB Y n ^^^ gB (turnL X t) n) := fun n hn => by
          rw [hV]
          unfold wordS
          rw [if_neg h8, gB_range _ _ _ hn, hX, hY, show t - 8 = q by omega, show t - 1 = p by omega]
          congr 1
          unfold gB
          rw [List.getD_eq_getElem?_getD, List.getD_eq_getElem?_getD, List.getElem?_take, if_pos hn, List.getElem?_drop]
        have HPT := Lib.hid hp; have HQT := Lib.hid hq; have H8 := Lib.hid h8
        have HSZ : Hid (h + 1 < wr.heap.size) := Blk.lt hb
        clear g ha hb hX hY hWL hV hp hq
        go_upto_region 8 with (first
          | (refine wpList_load_mid rfl 190 (.tmp 42) rfl (h + 1) (p * 4) rfl _ _ HRX.out Tryz.underlying190 rfl (size4c _ HXL.out) ?_)
          | (refine wpList_store_row rfl 190 (.tmp 5) (.tmp 43) rfl wr.heap.size (X.map u8c).toArray rfl rfl 190 _ (heap_alloc_new wr _) (size4 _ HXL.out) (by rw [arr_size, HXL.out]; rfl) (arr_one _) ?_))
        obtain ⟨gX, hgX⟩ : ∃ gX, gX = wr.heap.size := ⟨_, rfl⟩
        rw [← hgX]
        obtain ⟨W3, hW3⟩ : ∃ W3, W3 = (wr.alloc (.cells #[.int .u8 0, .int .u8 0, .int .u8 0, .int .u8 0] 190)).setRow gX (X.map u8c).toArray := ⟨_, rfl⟩
        have hz : By (wr.alloc (.cells #[.int .u8 0, .int .u8 0, .int .u8 0, .int .u8 0] 190)) gX 190 [0, 0, 0, 0] := by rw [hgX]; exact heap_alloc_new wr _
        have hG3 : Gr wr W3 := by rw [hW3]; exact byRow_below (Gr.alloc _ _) (Nat.le_of_eq hgX.symm) _
        have HNE : Hid (h + 1 < gX) := by show _ < _; rw [hgX]; exact HSZ.out
        have M3 : Hid (WMid w h gX (memS key t) X W3) := ⟨GR.out.trans hG3, hG3.blk HA.out, hG3.blk HB2.out, by rw [hW3]; exact hz.row⟩
        rw [← hW3]
        clear hW3 hz hG3 hgX HRX HA HB2 GR
        by_cases h4 : t % 4 = 0
        · by_cases h8' : t % 8 = 0
          · have t2 : (((t : Int) % 8) == 0) = true := by rw [beq_iff_eq]; omega
            have t3 : (((t : Int) % 4) == 0) = true := by rw [beq_iff_eq]; omega
            have HTN : Hid (turnL X t = ((rot4 X).map boxB).set 0 (boxB (gB X 1) ^^^ powB 2 (t / 8 - 1))) := by show turnL X t = _; unfold turnL; rw [if_neg (by omega), if_pos h8']
            have c0 := M3.out.x.at (i := 0) (by rw [HXL.out]; decide)
            have c1 := M3.out.x.at (i := 1) (by rw [HXL.out]; decide)
            have c2 := M3.out.x.at (i := 2) (by rw [HXL.out]; decide)
            have c3 := M3.out.x.at (i := 3) (by rw [HXL.out]; decide)
            go_upto_region 10 with (refine wpList_store_row rfl 190 (.tmp 5) (.tmp 55) rfl gX ((rot4 X).map u8c).toArray rfl rfl 190 _ M3.out.x (size4 _ rfl) (by rw [arr_size, arr_size, HXL.out]; rfl) (arr_one _) ?_)
            have M4 : Hid (WMid w h gX (memS key t) (rot4 X) _) := M3.out.rowX (X' := rot4 X) (Nat.le_of_eq HH.out.symm) HNE.out
            obtain ⟨W4, hW4⟩ : ∃ W4, W4 = W3.setRow gX ((rot4 X).map u8c).toArray := ⟨_, rfl⟩
            rw [← hW4] at M4 ⊢
            clear hW4 c0 c1 c2 c3
            have HRL : Hid ((rot4 X).length = 4) := rfl
            go_wp2_with fail
            go_loopw [6] (fun i wx => ∃ k : Nat, k ≤ 4 ∧ i = .int .i64 (k : Int) ∧ WMid w h gX (memS key t) (mixB (rot4 X) ((rot4 X).map boxB) k) wx) (fun i _ => 4 - (Go.RowKit.intOf i).toNat)
            case atStart => exact ⟨0, Nat.zero_le _, rfl, by rw [mixB_zero]; exact M4.out⟩
            case round =>
              obtain ⟨k, hk, rfl, mx⟩ := hrel
              have MX := Lib.hid mx; clear mx
              have q0 : (0 : Int) ≤ k := by omega
              have HSL : Hid (((rot4 X).map boxB).length = 4) := by show _ = _; rw [List.length_map]; exact HRL.out
              have HMX : Hid ((mixB (rot4 X) ((rot4 X).map boxB) k).length = 4) := mixB_len HRL.out HSL.out (by omega)
              by_cases hk4 : k < 4
              · have t3 : decide ((k : Int) < 4) = true := decide_eq_true (by omega)
                have q1 : (k : Int) < 4 := by omega
                have c1 := MX.out.x.at (i := k) (by rw [HMX.out]; exact hk4)
                rw [mixB_at HRL.out HSL.out hk4] at c1
                have HV : Hid (gB ((rot4 X).map boxB) k = boxB (gB (rot4 X) k)) := gB_map _ _ _ (by rw [HRL.out]; exact hk4)
                have HBX := Lib.hid (refBox_any (gB (rot4 X) k))
                go_wp2_with (go_at_call 208; refine (HBX.out _).mono ?_; rintro e w2 ⟨rfl, k1, hw2⟩; have M2 := Lib.hid (MX.out.mono (show Gr _ w2 by rw [hw2]; exact belowN (Gr.refl _) k1)); have cc := M2.out.x.at (i := k) (by rw [HMX.out]; exact hk4); have ff := Blk.free M2.out.x k; clear hw2)
                go_roundw
                case rel =>
                  refine ⟨k + 1, by omega, by go_num, ?_⟩
                  rw [← mixB_set HRL.out HSL.out hk4, HV.out]
                  exact M2.out.putX (Nat.le_of_eq HH.out.symm) HNE.out k _
                case measure => simp [Go.RowKit.intOf]; omega
              · obtain rfl : k = 4 := by omega
                rw [mixB_all HRL.out HSL.out] at MX
                have HRB : Hid (((rot4 X).map boxB).length = 4) := rfl
                have HGB : Hid (gB ((rot4 X).map boxB) 0 = boxB (gB X 1)) := rfl
                obtain ⟨z, hz⟩ : ∃ z : Nat, z = t / 8 - 1 := ⟨_, rfl⟩
                have HPW : Hid (powR 2 z = powB 2 z) := powR_two z (by omega)
                have ed : (t : Int).tdiv 8 = ((z + 1 : Nat) : Int) := by rw [Int.tdiv_eq_ediv_of_nonneg (by omega)]; omega
                have ez : IntKind.i64.wrap (((z + 1 : Nat) : Int)) = ((z + 1 : Nat) : Int) := IntWalk.i64_in _ (by omega)
                have ez2 : IntKind.i64.wrap (((z + 1 : Nat) : Int) - 1) = (z : Int) := by rw [IntWalk.i64_in _ (by omega)]; omega
                obtain ⟨z1, hz1⟩ : ∃ q, q = z + 1 := ⟨_, rfl⟩
                rw [← hz1] at ed ez ez2
                have HZQ := Lib.hid hz
                have HPC := Lib.hid (fun W => refPower_any 2 z (by omega) W)
                rw [show ub 2 = 2 from rfl] at HPC
                have x1 := ub_xor (boxB (gB X 1)) (powR 2 z)
                have LX : Hid (∀ wq, Gr wr wq → wq.cell? ⟨gX, 0, none⟩ = some (.int .u8 (ub (boxB (gB X 1))))) := fun wq hq => by
                  have := By.at (MX.out.mono hq).x (i := 0) (by rw [HRB.out]; decide)
                  rwa [HGB.out] at this
                clear hz hz1 hk hk4
                go_upto_region 16 with fail
                refine wp_region_grow (by kernel_rfl) [0, 1, 0, 4, 12, 28, 63, 127, 255] [.p 0, .p 2, .p 3, .p 4, .q 1, .c 5, .p 6, .p 7, .s 8] (by kernel_rfl) (trivial) ?_
                refine wpG_pe rfl rfl ?_
                apply Exists.intro
                refine ⟨fun wq => ?_, ?_⟩
                · unfold plainAt
                  go_simp
                  first | exact rfl | exact ⟨rfl, rfl⟩
                go_simp
                refine wpG_pe rfl rfl ?_
                apply Exists.intro
                refine ⟨fun wq => ?_, ?_⟩
                · unfold plainAt
                  go_simp
                  first | exact rfl | exact ⟨rfl, rfl⟩
                go_simp
                refine wpG_pe rfl rfl ?_
                apply Exists.intro
                refine ⟨fun wq => ?_, ?_⟩
                · unfold plainAt
                  go_simp
                  first | exact rfl | exact ⟨rfl, rfl⟩
                go_simp
                refine wpG_pe rfl rfl ?_
                apply Exists.intro
                refine ⟨fun wq => ?_, ?_⟩
                · unfold plainAt
                  go_simp
                  first | exact rfl | exact ⟨rfl, rfl⟩
                go_simp
                refine wpG_qe rfl rfl ?_
                apply Exists.intro
                refine ⟨fun wq hq => ?_, ?_⟩
                · have c0 := LX.out wq ((Gr.drew _).trans hq)
                  unfold plainAt
                  go_simp
                  first | exact rfl | exact ⟨rfl, rfl⟩
                go_simp
                refine wpG_c rfl rfl ?_
                intro w5 g5 K hK
                go_simp
                go_at_call 209
                refine (HPC.out w5).mono ?_
                rintro e wn ⟨rfl, rfl⟩
                refine hK _ _ (Gr.refl _) ?_; clear hK; have M5 := Lib.hid (MX.out.mono ((Gr.drew _).trans g5)); clear g5
                go_simp
                refine wpG_pe rfl rfl ?_
                apply Exists.intro
                refine ⟨fun wq => ?_, ?_⟩
                · unfold plainAt
                  go_simp
                  first | exact rfl | exact ⟨rfl, rfl⟩
                go_simp
                refine wpG_pe rfl rfl ?_
                apply Exists.intro
                refine ⟨fun wq => ?_, ?_⟩
                · unfold plainAt
                  go_simp
                  first | exact rfl | exact ⟨rfl, rfl⟩
                go_simp
                refine wpG_s rfl rfl ?_
                intro w7 g7 K hK
                have M7 := Lib.hid (M5.out.mono g7)
                have cc := M7.out.x.at (i := 0) (by rw [HRB.out]; decide)
                have ff := Blk.free M7.out.x 0
                go_simp
                refine hK _ _ ?_
                clear hK
                have M8 := Lib.hid (M7.out.putX (Nat.le_of_eq HH.out.symm) HNE.out 0 (boxB (gB X 1) ^^^ powR 2 z))
                obtain ⟨W8, hW8⟩ : ∃ W8, W8 = w7.setCell ⟨gX, 0, none⟩ (.int .u8 (ub (boxB (gB X 1) ^^^ powR 2 z))) := ⟨_, rfl⟩
                rw [← hW8] at M8 ⊢
                rw [HPW.out, HZQ.out, ← HTN.out] at M8
                clear hW8 M7 g7 cc ff M5 MX
                refine wpG_nil ?_
                intro w9 g9
                have M9 := Lib.hid (M8.out.mono g9)
                clear g9 M8
                obtain ⟨T, hT⟩ : ∃ T, T = turnL X t := ⟨_, rfl⟩
                have HTQ : Hid (T = turnL X t) := hT
                have HTL : Hid (T.length = 4) := by show _ = _; rw [hT]; exact turnL_len t HXL.out
                have MT : Hid (WMid w h gX (memN (memS key t) V (4 * t) 0) T (w9)) := by rw [hT, memN_zero]; exact M9.out
                have HWV : Hid (∀ n, n < 4 → gB V n = gB Y n ^^^ gB T n) := fun n hn => by rw [HTQ.out]; exact HWV0.out n hn
                clear hT
                go_wp2_with fail
                go_loopw [7] (fun i wx => ∃ n : Nat, n ≤ 4 ∧ i = .int .i64 (n : Int) ∧ WMid w h gX (memN (memS key t) V (4 * t) n) T wx) (fun i _ => 4 - (Go.RowKit.intOf i).toNat)
                case atStart => exact ⟨0, Nat.zero_le _, rfl, MT.out⟩
                case round =>
                  obtain ⟨n, hn, rfl, mx⟩ := hrel
                  have MX := Lib.hid mx; clear mx
                  have q0 : (0 : Int) ≤ n := by omega
                  have HD4 : Hid (4 * t + 4 ≤ (memS key t).length) := by show _ ≤ _; rw [HM.out]; omega
                  by_cases hn4 : n < 4
                  · have t9 : decide ((n : Int) < 4) = true := decide_eq_true (by omega)
                    have q1 : (n : Int) < 4 := by omega
                    have q2 : (t : Int) < 60 := by omega
                    have x1 := ub_xor (gB Y n) (gB T n)
                    have HVn := Lib.hid (HWV.out n hn4)
                    have HMN : Hid ((memN (memS key t) V (4 * t) n).length = 240) := by show _ = _; rw [memN_len HVL.out (by omega) HD4.out, HM.out]
                    have LY : Hid (∀ wq, Gr wr wq → wq.cell? ⟨h + 1, q * 4 + n, none⟩ = some (.int .u8 (ub (gB Y n)))) := fun wq hq => by
                      have := By.at (MX.out.mono hq).b (i := q * 4 + n) (by rw [HMN.out]; omega)
                      rwa [HYN.out n hn4 n (by omega)] at this
                    have LT : Hid (∀ wq, Gr wr wq → wq.cell? ⟨gX, n, none⟩ = some (.int .u8 (ub (gB T n)))) := fun wq hq => By.at (MX.out.mono hq).x (i := n) (by rw [HTL.out]; exact hn4)
                    go_upto_region 20 with fail
                    refine wp_region_grow (by kernel_rfl) [0, 0, 0, 4, 0, 12, 60, 124, 0, 256, 768, 2044, 1, 8191, 16383] [.p 0, .p 1, .p 2, .p 3, .p 4, .p 5, .p 6, .p 8, .p 9, .p 12, .q 7, .q 10, .p 11, .p 13, .s 14] (by kernel_rfl) (trivial) ?_
                    refine wpG_pe rfl rfl ?_
                    apply Exists.intro
                    refine ⟨fun wq => ?_, ?_⟩
                    · unfold plainAt
                      go_simp
                      first | exact rfl | exact ⟨rfl, rfl⟩
                    go_simp
                    refine wpG_pe rfl rfl ?_
                    apply Exists.intro
                    refine ⟨fun wq => ?_, ?_⟩
                    · unfold plainAt
                      go_simp
                      first | exact rfl | exact ⟨rfl, rfl⟩
                    go_simp
                    refine wpG_pe rfl rfl ?_
                    apply Exists.intro
                    refine ⟨fun wq => ?_, ?_⟩
                    · unfold plainAt
                      go_simp
                      first | exact rfl | exact ⟨rfl, rfl⟩
                    go_simp
                    refine wpG_pe rfl rfl ?_
                    apply Exists.intro
                    refine ⟨fun wq => ?_, ?_⟩
                    · unfold plainAt
                      go_simp
                      first | exact rfl | exact ⟨rfl, rfl⟩
                    go_simp
                    refine wpG_pe rfl rfl ?_
                    apply Exists.intro
                    refine ⟨fun wq => ?_, ?_⟩
                    · unfold plainAt
                      go_simp
                      first | exact rfl | exact ⟨rfl, rfl⟩
                    go_simp
                    refine wpG_pe rfl rfl ?_
                    apply Exists.intro
                    refine ⟨fun wq => ?_, ?_⟩
                    · unfold plainAt
                      go_simp
                      first | exact rfl | exact ⟨rfl, rfl⟩
                    go_simp
                    refine wpG_pe rfl rfl ?_
                    apply Exists.intro
                    refine ⟨fun wq => ?_, ?_⟩
                    · unfold plainAt
                      go_simp
                      first | exact rfl | exact ⟨rfl, rfl⟩
                    go_simp
                    refine wpG_pe rfl rfl ?_
                    apply Exists.intro
                    refine ⟨fun wq => ?_, ?_⟩
                    · unfold plainAt
                      go_simp
                      first | exact rfl | exact ⟨rfl, rfl⟩
                    go_simp
                    refine wpG_pe rfl rfl ?_
                    apply Exists.intro
                    refine ⟨fun wq => ?_, ?_⟩
                    · unfold plainAt
                      go_simp
                      first | exact rfl | exact ⟨rfl, rfl⟩
                    go_simp
                    refine wpG_pe rfl rfl ?_
                    apply Exists.intro
                    refine ⟨fun wq => ?_, ?_⟩
                    · unfold plainAt
                      go_simp
                      first | exact rfl | exact ⟨rfl, rfl⟩
                    go_simp
                    refine wpG_qe rfl rfl ?_
                    apply Exists.intro
                    refine ⟨fun wq hq => ?_, ?_⟩
                    · have c0 := LY.out wq ((Gr.drew _).trans hq)
                      unfold plainAt
                      go_simp
                      first | exact rfl | exact ⟨rfl, rfl⟩
                    go_simp
                    refine wpG_qe rfl rfl ?_
                    apply Exists.intro
                    refine ⟨fun wq hq => ?_, ?_⟩
                    · have c0 := LT.out wq ((Gr.drew _).trans hq)
                      unfold plainAt
                      go_simp
                      first | exact rfl | exact ⟨rfl, rfl⟩
                    go_simp
                    refine wpG_pe rfl rfl ?_
                    apply Exists.intro
                    refine ⟨fun wq => ?_, ?_⟩
                    · unfold plainAt
                      go_simp
                      first | exact rfl | exact ⟨rfl, rfl⟩
                    go_simp
                    refine wpG_pe rfl rfl ?_
                    apply Exists.intro
                    refine ⟨fun wq => ?_, ?_⟩
                    · unfold plainAt
                      go_simp
                      first | exact rfl | exact ⟨rfl, rfl⟩
                    go_simp
                    refine wpG_s rfl rfl ?_
                    intro w7 g7 K hK
                    have M7 := Lib.hid (MX.out.mono ((Gr.drew _).trans g7))
                    have cc := M7.out.b.at (i := t * 4 + n) (by rw [HMN.out]; omega)
                    have ff := Blk.free M7.out.b (t * 4 + n)
                    go_simp
                    refine hK _ _ ?_
                    clear hK
                    have M8 := Lib.hid (M7.out.putB (Nat.le_of_eq HH.out.symm) HNE.out (t * 4 + n) (gB Y n ^^^ gB T n))
                    obtain ⟨W8, hW8⟩ : ∃ W8, W8 = w7.setCell ⟨h + 1, t * 4 + n, none⟩ (.int .u8 (ub (gB Y n ^^^ gB T n))) := ⟨_, rfl⟩
                    rw [← hW8] at M8 ⊢
                    rw [← HVn.out, Nat.mul_comm t 4, memN_set HVL.out hn4 HD4.out] at M8
                    clear hW8 M7 g7 cc ff
                    refine wpG_nil ?_
                    intro w9 g9
                    have M9 := Lib.hid (M8.out.mono g9)
                    clear g9 M8
                    go_wp2_with fail
                    go_roundw
                    case rel => first | exact ⟨n + 1, by omega, by go_num, M9.out⟩ | exact ⟨_, _, _, _, _, _, _, _, _, _, _, _, _, _, _, _, _, _, _, ⟨n + 1, by omega, by first | rfl | go_num, M9.out⟩, rfl⟩
                    case measure => simp [Go.RowKit.intOf]; omega
                  · obtain rfl : n = 4 := by omega
                    have e : memN (memS key t) V (4 * t) 4 = memS key (t + 1) := by
                      rw [← memS_next HK.out hlt, ← HVE.out]
                      unfold memN
                      rw [List.take_of_length_le (Nat.le_of_eq HVL.out)]
                    rw [e] at MX
                    clear e
                    go_wp2_with fail
                    go_roundw
                    case rel => exact ⟨t + 1, by omega, by go_num, MX.out.gr, MX.out.a, MX.out.b⟩
                    case measure => simp [Go.RowKit.intOf]; omega
          · have t2 : (((t : Int) % 8) == 0) = false := by rw [beq_eq_false_iff_ne]; omega
            have t3 : (((t : Int) % 4) == 0) = true := by rw [beq_iff_eq]; omega
            have HTN : Hid (turnL X t = X.map boxB) := by show turnL X t = _; unfold turnL; rw [if_neg (by omega), if_neg h8']
            go_wp2_with fail
            go_loopw [6] (fun i wx => ∃ k : Nat, k ≤ 4 ∧ i = .int .i64 (k : Int) ∧ WMid w h gX (memS key t) (mixB (X) ((X).map boxB) k) wx) (fun i _ => 4 - (Go.RowKit.intOf i).toNat)
            case atStart => exact ⟨0, Nat.zero_le _, rfl, by rw [mixB_zero]; exact M3.out⟩
            case round =>
              obtain ⟨k, hk, rfl, mx⟩ := hrel
              have MX := Lib.hid mx; clear mx
              have q0 : (0 : Int) ≤ k := by omega
              have HSL : Hid (((X).map boxB).length = 4) := by show _ = _; rw [List.length_map]; exact HXL.out
              have HMX : Hid ((mixB (X) ((X).map boxB) k).length = 4) := mixB_len HXL.out HSL.out (by omega)
              by_cases hk4 : k < 4
              · have t3 : decide ((k : Int) < 4) = true := decide_eq_true (by omega)
                have q1 : (k : Int) < 4 := by omega
                have c1 := MX.out.x.at (i := k) (by rw [HMX.out]; exact hk4)
                rw [mixB_at HXL.out HSL.out hk4] at c1
                have HV : Hid (gB ((X).map boxB) k = boxB (gB (X) k)) := gB_map _ _ _ (by rw [HXL.out]; exact hk4)
                have HBX := Lib.hid (refBox_any (gB (X) k))
                go_wp2_with (go_at_call 208; refine (HBX.out _).mono ?_; rintro e w2 ⟨rfl, k1, hw2⟩; have M2 := Lib.hid (MX.out.mono (show Gr _ w2 by rw [hw2]; exact belowN (Gr.refl _) k1)); have cc := M2.out.x.at (i := k) (by rw [HMX.out]; exact hk4); have ff := Blk.free M2.out.x k; clear hw2)
                go_roundw
                case rel =>
                  refine ⟨k + 1, by omega, by go_num, ?_⟩
                  rw [← mixB_set HXL.out HSL.out hk4, HV.out]
                  exact M2.out.putX (Nat.le_of_eq HH.out.symm) HNE.out k _
                case measure => simp [Go.RowKit.intOf]; omega
              · obtain rfl : k = 4 := by omega
                rw [mixB_all HXL.out HSL.out] at MX
                rw [← HTN.out] at MX
                clear hk hk4
                go_wp2_with fail
                obtain ⟨T, hT⟩ : ∃ T, T = turnL X t := ⟨_, rfl⟩
                have HTQ : Hid (T = turnL X t) := hT
                have HTL : Hid (T.length = 4) := by show _ = _; rw [hT]; exact turnL_len t HXL.out
                have MT : Hid (WMid w h gX (memN (memS key t) V (4 * t) 0) T (wr)) := by rw [hT, memN_zero]; exact MX.out
                have HWV : Hid (∀ n, n < 4 → gB V n = gB Y n ^^^ gB T n) := fun n hn => by rw [HTQ.out]; exact HWV0.out n hn
                clear hT
                go_wp2_with fail
                go_loopw [7] (fun i wx => ∃ n : Nat, n ≤ 4 ∧ i = .int .i64 (n : Int) ∧ WMid w h gX (memN (memS key t) V (4 * t) n) T wx) (fun i _ => 4 - (Go.RowKit.intOf i).toNat)
                case atStart => exact ⟨0, Nat.zero_le _, rfl, MT.out⟩
                case round =>
                  obtain ⟨n, hn, rfl, mx⟩ := hrel
                  have MX := Lib.hid mx; clear mx
                  have q0 : (0 : Int) ≤ n := by omega
                  have HD4 : Hid (4 * t + 4 ≤ (memS key t).length) := by show _ ≤ _; rw [HM.out]; omega
                  by_cases hn4 : n < 4
                  · have t9 : decide ((n : Int) < 4) = true := decide_eq_true (by omega)
                    have q1 : (n : Int) < 4 := by omega
                    have q2 : (t : Int) < 60 := by omega
                    have x1 := ub_xor (gB Y n) (gB T n)
                    have HVn := Lib.hid (HWV.out n hn4)
                    have HMN : Hid ((memN (memS key t) V (4 * t) n).length = 240) := by show _ = _; rw [memN_len HVL.out (by omega) HD4.out, HM.out]
                    have LY : Hid (∀ wq, Gr wr wq → wq.cell? ⟨h + 1, q * 4 + n, none⟩ = some (.int .u8 (ub (gB Y n)))) := fun wq hq => by
                      have := By.at (MX.out.mono hq).b (i := q * 4 + n) (by rw [HMN.out]; omega)
                      rwa [HYN.out n hn4 n (by omega)] at this
                    have LT : Hid (∀ wq, Gr wr wq → wq.cell? ⟨gX, n, none⟩ = some (.int .u8 (ub (gB T n)))) := fun wq hq => By.at (MX.out.mono hq).x (i := n) (by rw [HTL.out]; exact hn4)
                    go_upto_region 20 with fail
                    refine wp_region_grow (by kernel_rfl) [0, 0, 0, 4, 0, 12, 60, 124, 0, 256, 768, 2044, 1, 8191, 16383] [.p 0, .p 1, .p 2, .p 3, .p 4, .p 5, .p 6, .p 8, .p 9, .p 12, .q 7, .q 10, .p 11, .p 13, .s 14] (by kernel_rfl) (trivial) ?_
                    refine wpG_pe rfl rfl ?_
                    apply Exists.intro
                    refine ⟨fun wq => ?_, ?_⟩
                    · unfold plainAt
                      go_simp
                      first | exact rfl | exact ⟨rfl, rfl⟩
                    go_simp
                    refine wpG_pe rfl rfl ?_
                    apply Exists.intro
                    refine ⟨fun wq => ?_, ?_⟩
                    · unfold plainAt
                      go_simp
                      first | exact rfl | exact ⟨rfl, rfl⟩
                    go_simp
                    refine wpG_pe rfl rfl ?_
                    apply Exists.intro
                    refine ⟨fun wq => ?_, ?_⟩
                    · unfold plainAt
                      go_simp
                      first | exact rfl | exact ⟨rfl, rfl⟩
                    go_simp
                    refine wpG_pe rfl rfl ?_
                    apply Exists.intro
                    refine ⟨fun wq => ?_, ?_⟩
                    · unfold plainAt
                      go_simp
                      first | exact rfl | exact ⟨rfl, rfl⟩
                    go_simp
                    refine wpG_pe rfl rfl ?_
                    apply Exists.intro
                    refine ⟨fun wq => ?_, ?_⟩
                    · unfold plainAt
                      go_simp
                      first | exact rfl | exact ⟨rfl, rfl⟩
                    go_simp
                    refine wpG_pe rfl rfl ?_
                    apply Exists.intro
                    refine ⟨fun wq => ?_, ?_⟩
                    · unfold plainAt
                      go_simp
                      first | exact rfl | exact ⟨rfl, rfl⟩
                    go_simp
                    refine wpG_pe rfl rfl ?_
                    apply Exists.intro
                    refine ⟨fun wq => ?_, ?_⟩
                    · unfold plainAt
                      go_simp
                      first | exact rfl | exact ⟨rfl, rfl⟩
                    go_simp
                    refine wpG_pe rfl rfl ?_
                    apply Exists.intro
                    refine ⟨fun wq => ?_, ?_⟩
                    · unfold plainAt
                      go_simp
                      first | exact rfl | exact ⟨rfl, rfl⟩
                    go_simp
                    refine wpG_pe rfl rfl ?_
                    apply Exists.intro
                    refine ⟨fun wq => ?_, ?_⟩
                    · unfold plainAt
                      go_simp
                      first | exact rfl | exact ⟨rfl, rfl⟩
                    go_simp
                    refine wpG_pe rfl rfl ?_
                    apply Exists.intro
                    refine ⟨fun wq => ?_, ?_⟩
                    · unfold plainAt
                      go_simp
                      first | exact rfl | exact ⟨rfl, rfl⟩
                    go_simp
                    refine wpG_qe rfl rfl ?_
                    apply Exists.intro
                    refine ⟨fun wq hq => ?_, ?_⟩
                    · have c0 := LY.out wq ((Gr.drew _).trans hq)
                      unfold plainAt
                      go_simp
                      first | exact rfl | exact ⟨rfl, rfl⟩
                    go_simp
                    refine wpG_qe rfl rfl ?_
                    apply Exists.intro
                    refine ⟨fun wq hq => ?_, ?_⟩
                    · have c0 := LT.out wq ((Gr.drew _).trans hq)
                      unfold plainAt
                      go_simp
                      first | exact rfl | exact ⟨rfl, rfl⟩
                    go_simp
                    refine wpG_pe rfl rfl ?_
                    apply Exists.intro
                    refine ⟨fun wq => ?_, ?_⟩
                    · unfold plainAt
                      go_simp
                      first | exact rfl | exact ⟨rfl, rfl⟩
                    go_simp
                    refine wpG_pe rfl rfl ?_
                    apply Exists.intro
                    refine ⟨fun wq => ?_, ?_⟩
                    · unfold plainAt
                      go_simp
                      first | exact rfl | exact ⟨rfl, rfl⟩
                    go_simp
                    refine wpG_s rfl rfl ?_
                    intro w7 g7 K hK
                    have M7 := Lib.hid (MX.out.mono ((Gr.drew _).trans g7))
                    have cc := M7.out.b.at (i := t * 4 + n) (by rw [HMN.out]; omega)
                    have ff := Blk.free M7.out.b (t * 4 + n)
                    go_simp
                    refine hK _ _ ?_
                    clear hK
                    have M8 := Lib.hid (M7.out.putB (Nat.le_of_eq HH.out.symm) HNE.out (t * 4 + n) (gB Y n ^^^ gB T n))
                    obtain ⟨W8, hW8⟩ : ∃ W8, W8 = w7.setCell ⟨h + 1, t * 4 + n, none⟩ (.int .u8 (ub (gB Y n ^^^ gB T n))) := ⟨_, rfl⟩
                    rw [← hW8] at M8 ⊢
                    rw [← HVn.out, Nat.mul_comm t 4, memN_set HVL.out hn4 HD4.out] at M8
                    clear hW8 M7 g7 cc ff
                    refine wpG_nil ?_
                    intro w9 g9
                    have M9 := Lib.hid (M8.out.mono g9)
                    clear g9 M8
                    go_wp2_with fail
                    go_roundw
                    case rel => first | exact ⟨n + 1, by omega, by go_num, M9.out⟩ | exact ⟨_, _, _, _, _, _, _, _, _, _, _, _, _, _, _, _, _, _, _, ⟨n + 1, by omega, by first | rfl | go_num, M9.out⟩, rfl⟩
                    case measure => simp [Go.RowKit.intOf]; omega
                  · obtain rfl : n = 4 := by omega
                    have e : memN (memS key t) V (4 * t) 4 = memS key (t + 1) := by
                      rw [← memS_next HK.out hlt, ← HVE.out]
                      unfold memN
                      rw [List.take_of_length_le (Nat.le_of_eq HVL.out)]
                    rw [e] at MX
                    clear e
                    go_wp2_with fail
                    go_roundw
                    case rel => exact ⟨t + 1, by omega, by go_num, MX.out.gr, MX.out.a, MX.out.b⟩
                    case measure => simp [Go.RowKit.intOf]; omega
        · have t2 : (((t : Int) % 8) == 0) = false := by rw [beq_eq_false_iff_ne]; omega
          have t3 : (((t : Int) % 4) == 0) = false := by rw [beq_eq_false_iff_ne]; omega
          have HTN : Hid (turnL X t = X) := by show turnL X t = _; unfold turnL; rw [if_pos h4]
          go_wp2_with fail
          go_loopw [6] (fun i wx => ∃ k : Nat, k ≤ 4 ∧ i = .int .i64 (k : Int) ∧ WMid w h gX (memS key t) X wx) (fun i _ => 4 - (Go.RowKit.intOf i).toNat)
          case atStart => exact ⟨0, Nat.zero_le _, rfl, M3.out⟩
          case round =>
            obtain ⟨k, hk, rfl, mx⟩ := hrel
            have MX := Lib.hid mx; clear mx
            have q0 : (0 : Int) ≤ k := by omega
            by_cases hk4 : k < 4
            · have t5 : decide ((k : Int) < 4) = true := decide_eq_true (by omega)
              go_wp2_with fail
              go_roundw
              case rel => exact ⟨k + 1, by omega, by go_num, MX.out⟩
              case measure => simp [Go.RowKit.intOf]; omega
            · obtain rfl : k = 4 := by omega
              clear hk hk4
              rw [← HTN.out] at MX
              go_wp2_with fail
              obtain ⟨T, hT⟩ : ∃ T, T = turnL X t := ⟨_, rfl⟩
              have HTQ : Hid (T = turnL X t) := hT
              have HTL : Hid (T.length = 4) := by show _ = _; rw [hT]; exact turnL_len t HXL.out
              have MT : Hid (WMid w h gX (memN (memS key t) V (4 * t) 0) T (wr)) := by rw [hT, memN_zero]; exact MX.out
              have HWV : Hid (∀ n, n < 4 → gB V n = gB Y n ^^^ gB T n) := fun n hn => by rw [HTQ.out]; exact HWV0.out n hn
              clear hT
              go_wp2_with fail
              go_loopw [7] (fun i wx => ∃ n : Nat, n ≤ 4 ∧ i = .int .i64 (n : Int) ∧ WMid w h gX (memN (memS key t) V (4 * t) n) T wx) (fun i _ => 4 - (Go.RowKit.intOf i).toNat)
              case atStart => exact ⟨0, Nat.zero_le _, rfl, MT.out⟩
              case round =>
                obtain ⟨n, hn, rfl, mx⟩ := hrel
                have MX := Lib.hid mx; clear mx
                have q0 : (0 : Int) ≤ n := by omega
                have HD4 : Hid (4 * t + 4 ≤ (memS key t).length) := by show _ ≤ _; rw [HM.out]; omega
                by_cases hn4 : n < 4
                · have t9 : decide ((n : Int) < 4) = true := decide_eq_true (by omega)
                  have q1 : (n : Int) < 4 := by omega
                  have q2 : (t : Int) < 60 := by omega
                  have x1 := ub_xor (gB Y n) (gB T n)
                  have HVn := Lib.hid (HWV.out n hn4)
                  have HMN : Hid ((memN (memS key t) V (4 * t) n).length = 240) := by show _ = _; rw [memN_len HVL.out (by omega) HD4.out, HM.out]
                  have LY : Hid (∀ wq, Gr wr wq → wq.cell? ⟨h + 1, q * 4 + n, none⟩ = some (.int .u8 (ub (gB Y n)))) := fun wq hq => by
                    have := By.at (MX.out.mono hq).b (i := q * 4 + n) (by rw [HMN.out]; omega)
                    rwa [HYN.out n hn4 n (by omega)] at this
                  have LT : Hid (∀ wq, Gr wr wq → wq.cell? ⟨gX, n, none⟩ = some (.int .u8 (ub (gB T n)))) := fun wq hq => By.at (MX.out.mono hq).x (i := n) (by rw [HTL.out]; exact hn4)
                  go_upto_region 20 with fail
                  refine wp_region_grow (by kernel_rfl) [0, 0, 0, 4, 0, 12, 60, 124, 0, 256, 768, 2044, 1, 8191, 16383] [.p 0, .p 1, .p 2, .p 3, .p 4, .p 5, .p 6, .p 8, .p 9, .p 12, .q 7, .q 10, .p 11, .p 13, .s 14] (by kernel_rfl) (trivial) ?_
                  refine wpG_pe rfl rfl ?_
                  apply Exists.intro
                  refine ⟨fun wq => ?_, ?_⟩
                  · unfold plainAt
                    go_simp
                    first | exact rfl | exact ⟨rfl, rfl⟩
                  go_simp
                  refine wpG_pe rfl rfl ?_
                  apply Exists.intro
                  refine ⟨fun wq => ?_, ?_⟩
                  · unfold plainAt
                    go_simp
                    first | exact rfl | exact ⟨rfl, rfl⟩
                  go_simp
                  refine wpG_pe rfl rfl ?_
                  apply Exists.intro
                  refine ⟨fun wq => ?_, ?_⟩
                  · unfold plainAt
                    go_simp
                    first | exact rfl | exact ⟨rfl, rfl⟩
                  go_simp
                  refine wpG_pe rfl rfl ?_
                  apply Exists.intro
                  refine ⟨fun wq => ?_, ?_⟩
                  · unfold plainAt
                    go_simp
                    first | exact rfl | exact ⟨rfl, rfl⟩
                  go_simp
                  refine wpG_pe rfl rfl ?_
                  apply Exists.intro
                  refine ⟨fun wq => ?_, ?_⟩
                  · unfold plainAt
                    go_simp
                    first | exact rfl | exact ⟨rfl, rfl⟩
                  go_simp
                  refine wpG_pe rfl rfl ?_
                  apply Exists.intro
                  refine ⟨fun wq => ?_, ?_⟩
                  · unfold plainAt
                    go_simp
                    first | exact rfl | exact ⟨rfl, rfl⟩
                  go_simp
                  refine wpG_pe rfl rfl ?_
                  apply Exists.intro
                  refine ⟨fun wq => ?_, ?_⟩
                  · unfold plainAt
                    go_simp
                    first | exact rfl | exact ⟨rfl, rfl⟩
                  go_simp
                  refine wpG_pe rfl rfl ?_
                  apply Exists.intro
                  refine ⟨fun wq => ?_, ?_⟩
                  · unfold plainAt
                    go_simp
                    first | exact rfl | exact ⟨rfl, rfl⟩
                  go_simp
                  refine wpG_pe rfl rfl ?_
                  apply Exists.intro
                  refine ⟨fun wq => ?_, ?_⟩
                  · unfold plainAt
                    go_simp
                    first | exact rfl | exact ⟨rfl, rfl⟩
                  go_simp
                  refine wpG_pe rfl rfl ?_
                  apply Exists.intro
                  refine ⟨fun wq => ?_, ?_⟩
                  · unfold plainAt
                    go_simp
                    first | exact rfl | exact ⟨rfl, rfl⟩
                  go_simp
                  refine wpG_qe rfl rfl ?_
                  apply Exists.intro
                  refine ⟨fun wq hq => ?_, ?_⟩
                  · have c0 := LY.out wq ((Gr.drew _).trans hq)
                    unfold plainAt
                    go_simp
                    first | exact rfl | exact ⟨rfl, rfl⟩
                  go_simp
                  refine wpG_qe rfl rfl ?_
                  apply Exists.intro
                  refine ⟨fun wq hq => ?_, ?_⟩
                  · have c0 := LT.out wq ((Gr.drew _).trans hq)
                    unfold plainAt
                    go_simp
                    first | exact rfl | exact ⟨rfl, rfl⟩
                  go_simp
                  refine wpG_pe rfl rfl ?_
                  apply Exists.intro
                  refine ⟨fun wq => ?_, ?_⟩
                  · unfold plainAt
                    go_simp
                    first | exact rfl | exact ⟨rfl, rfl⟩
                  go_simp
                  refine wpG_pe rfl rfl ?_
                  apply Exists.intro
                  refine ⟨fun wq => ?_, ?_⟩
                  · unfold plainAt
                    go_simp
                    first | exact rfl | exact ⟨rfl, rfl⟩
                  go_simp
                  refine wpG_s rfl rfl ?_
                  intro w7 g7 K hK
                  have M7 := Lib.hid (MX.out.mono ((Gr.drew _).trans g7))
                  have cc := M7.out.b.at (i := t * 4 + n) (by rw [HMN.out]; omega)
                  have ff := Blk.free M7.out.b (t * 4 + n)
                  go_simp
                  refine hK _ _ ?_
                  clear hK
                  have M8 := Lib.hid (M7.out.putB (Nat.le_of_eq HH.out.symm) HNE.out (t * 4 + n) (gB Y n ^^^ gB T n))
                  obtain ⟨W8, hW8⟩ : ∃ W8, W8 = w7.setCell ⟨h + 1, t * 4 + n, none⟩ (.int .u8 (ub (gB Y n ^^^ gB T n))) := ⟨_, rfl⟩
                  rw [← hW8] at M8 ⊢
                  rw [← HVn.out, Nat.mul_comm t 4, memN_set HVL.out hn4 HD4.out] at M8
                  clear hW8 M7 g7 cc ff
                  refine wpG_nil ?_
                  intro w9 g9
                  have M9 := Lib.hid (M8.out.mono g9)
                  clear g9 M8
                  go_wp2_with fail
                  go_roundw
                  case rel => first | exact ⟨n + 1, by omega, by go_num, M9.out⟩ | exact ⟨_, _, _, _, _, _, _, _, _, _, _, _, _, _, _, _, _, _, _, ⟨n + 1, by omega, by first | rfl | go_num, M9.out⟩, rfl⟩
                  case measure => simp [Go.RowKit.intOf]; omega
                · obtain rfl : n = 4 := by omega
                  have e : memN (memS key t) V (4 * t) 4 = memS key (t + 1) := by
                    rw [← memS_next HK.out hlt, ← HVE.out]
                    unfold memN
                    rw [List.take_of_length_le (Nat.le_of_eq HVL.out)]
                  rw [e] at MX
                  clear e
                  go_wp2_with fail
                  go_roundw
                  case rel => exact ⟨t + 1, by omega, by go_num, MX.out.gr, MX.out.a, MX.out.b⟩
                  case measure => simp [Go.RowKit.intOf]; omega
    · obtain rfl : t = 60 := by omega
      obtain ⟨F, hF⟩ : ∃ F, F = schedL key := ⟨_, rfl⟩
      have HFL : Hid (F.length = 240) := by show _ = _; rw [hF]; exact schedL_len HK.out
      have HFB : Hid (By wr (h + 1) 191 F) := by
        have : memS key 60 = F := by rw [hF]; unfold memS schedL; simp
        rw [← this]; exact hb
      have HFE := Lib.hid hF
      clear g ha hb HB2 hF HM
      go_wp2_with (first
        | (refine wpList_load_row rfl 191 (.tmp 3) rfl (h + 1) rfl 191 _ (0, 0) _ HFB.out Tryz.underlying191 rfl (sizeW _ HFL.out) ?_)
        | (refine wpList_store_row rfl 191 (.tmp 2) (.tmp 98) rfl h (F.map u8c).toArray rfl rfl 191 _ HA.out (sizeW _ HFL.out) (by rw [arr_size, arr_size, HFL.out]; rfl) (arr_one _) ?_))
      rw [← HFE.out]
      exact bodyPost_ret (v := arr F) (results_cell_row Tryz.results192 _ _ h 191 _ (0, 0) _ rfl HA.out.row Tryz.underlying191 rfl (sizeW _ HFL.out)) rfl ⟨rfl, byRow_below GR.out (by rw [HH.out]; exact Nat.le_refl _) _⟩
end Go.Proofs.YtcfbbgbjlgonpaaGreatDoor
