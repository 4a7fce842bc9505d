import Derived.Test.YtbmijjodpdbbmaaDoorObRefT
namespace Go.Proofs.YtbmijjodpdbbmaaDoor
open Go.RowKit
set_option linter.unusedVariables false

set_option maxRecDepth 100000 in
set_option maxHeartbeats 2000000 in
theorem refSum_any (A : Option Addr) (n c : Nat) (l : List UInt8) (w : World) (h : Bs w A n c l) (hn : n ≤ 50000) :
    Calls Tryd.prog 95 #[.slice A n c] w (RetBs w (sumL l)) := by
  have hl : l.length = n := by have := Sl.len h; simpa using this
  have HH := Lib.hid h; have HLN := Lib.hid hl; clear h hl
  have HKS := Lib.hid kArr_size; have HKO := Lib.hid kArr_one
  go_enter Tryd.func95, Tryd.ntmps95
  go_wp2_with fail
  refine (refTable_any w).mono ?_
  rintro e w1 ⟨rfl, b1⟩
  obtain ⟨w2, hw2⟩ : ∃ w2, w2 = (w1.alloc (.cells (reps 64 (.int .u32 0)).toArray 153)).setRow w1.heap.size kArr := ⟨_, rfl⟩
  have D3 : Hid (Blk w2 w1.heap.size 153 kArr.toList) := by rw [hw2]; exact setRow_heap (w1.alloc _) w1.heap.size _ _ _ _ (heap_alloc_new w1 _)
  have HZ2 : Hid (w2.heap.size = w1.heap.size + 1) := by rw [hw2]; show _ = _; simp [World.setRow]
  have HB2 : Hid (Below w.heap.size w w2) := by rw [hw2]; exact below_row (b1.alloc b1.size _) b1.size _
  have HZ1 := Lib.hid b1.size
  have HW2 := Lib.hid hw2; clear hw2 b1
  go_wp2_with (first
    | (refine wpList_store_rowW rfl 153 (.tmp 3) (.tmp 9) rfl w1.heap.size kArr rfl rfl 153 (reps 64 (.int .u32 0)).toArray (by exact heap_alloc_new w1 _) (by rw [HKS.out]; kernel_rfl) (by rw [HKS.out]; rfl) HKO.out w2 (by exact HW2.out.symm) ?_)
    | fail)
  obtain ⟨w3, hw3⟩ : ∃ w3, w3 = w2.alloc (.cells #[.int .u32 1779033703, .int .u32 3144134277, .int .u32 1013904242, .int .u32 2773480762, .int .u32 1359893119, .int .u32 2600822924, .int .u32 528734635, .int .u32 1541459225] 155) := ⟨_, rfl⟩
  have AL : Hid (Below w2.heap.size w2 w3) := by rw [hw3]; exact (Below.refl _ _).alloc (Nat.le_refl _) _
  have HB3 : Hid (Below w.heap.size w w3) := below_both HB2.out AL.out
  have E3 : Hid (Blk w3 w1.heap.size 153 kArr.toList) := D3.out.mono AL.out
  have E4 : Hid (Blk w3 w2.heap.size 155 (hFold (allB l) (offs 0)).cells) := by
    rw [hw3]
    show Blk _ _ _ H0.cells
    rw [H0_cells]
    exact Blk.new w2 _ _
  have HZ3 : Hid (w3.heap.size = w2.heap.size + 1) := by rw [hw3]; show _ = _; simp
  rw [← hw3]
  clear hw3 D3 AL HW2
  refine (refPad7_any n w3 (by omega)).mono ?_
  rintro e w4 ⟨v4, rfl, o4⟩
  obtain ⟨A4, c4, rfl, s4⟩ := o4.slice
  have S4 := Lib.hid s4; have B4 := Lib.hid o4.below; clear o4 s4
  have hal := allB_len l
  have hpz := padZ_lt l.length
  have hpl := padB_len n
  have hln := HLN.out
  rw [hln] at hal hpz
  obtain ⟨m, hm⟩ : ∃ m, (allB l).length = 64 * m := ⟨_, (allB_whole l).symm⟩
  have hm1 : 1 ≤ m := by omega
  have hm2 : m ≤ 1000 := by omega
  have HSU : Hid (sumL l = outB (hFold (allB l) (offs m)).ws) := by unfold sumL; rw [hm, Nat.mul_div_cancel_left _ (by decide)]; exact rfl
  have HAB : Hid (l ++ padB n = allB l) := by unfold allB; rw [hln]; exact rfl
  have hnp : n + (padB n).length ≤ 60000 := by omega
  have HM := Lib.hid hm
  clear hal hpz hpl hln hm
  go_wp2_with fail
  refine (join_any A A4 n _ c c4 l (padB n) _ (HH.out.mono (below_both HB3.out B4.out)) S4.out (by omega)).mono ?_
  rintro e w5 ⟨v5, rfl, o5⟩
  rw [HAB.out, HM.out] at o5
  rcases o5.1.2 with ⟨_, h0⟩ | ⟨g5, c5, cur5, rfl, hg5, _⟩
  · omega
  have hb5 := o5.below
  obtain ⟨A5', c5', e5, s5⟩ := o5.slice
  injection e5 with e51 e52 e53
  subst e51 e53
  have hcap5 := Sl.cap s5
  have hmax5 := Sl.max s5
  have S5 : Hid (Bs w5 (some ⟨g5, 0, none⟩) (64 * m) c5 (allB l)) := s5
  have HB35 : Hid (Below w3.heap.size w3 w5) := below_both B4.out hb5
  have HB5 : Hid (Below w.heap.size w w5) := below_both HB3.out HB35.out
  have E35 : Hid (Blk w5 w1.heap.size 153 kArr.toList) := E3.out.mono HB35.out
  have E45 : Hid (Blk w5 w2.heap.size 155 (hFold (allB l) (offs 0)).cells) := E4.out.mono HB35.out
  have LG : Hid (w2.heap.size < g5) := by
    have h1 := (o5.1.lt g5 rfl).1; have h2 := B4.out.size; have h3 := HZ3.out; show _ < _; omega
  have L5 : Hid (w2.heap.size < w5.heap.size) := by have h2 := HB35.out.size; have h3 := HZ3.out; show _ < _; omega
  have L12 : Hid (w1.heap.size < w2.heap.size) := by have := HZ2.out; show _ < _; omega
  have LW : Hid (w.heap.size ≤ w2.heap.size) := HB2.out.size
  clear o5 hb5 s5 S4 B4 E3 E4 HZ3 HZ2 HAB HM HB35
  generalize hb1 : w1.heap.size = g1 at *
  generalize hb2 : w2.heap.size = g2 at *
  clear hb1 hb2
  generalize allB l = T at *
  go_wp2_with fail
  go_loopw [6] (fun i wr => ∃ t : Nat, t ≤ m ∧ i = .int .i64 (64 * (t : Int)) ∧ Blk wr g2 155 (hFold T (offs t)).cells ∧ (∀ b, b < w5.heap.size → b ≠ g2 → wr.heap[b]? = w5.heap[b]?) ∧ Below w.heap.size w wr ∧ w5.heap.size ≤ wr.heap.size) (fun i _ => 64 * m - (intOf i).toNat)
  case atStart => exact ⟨0, by omega, rfl, E45.out, fun _ _ _ => rfl, HB5.out, Nat.le_refl _⟩
  case round =>
    obtain ⟨t, ht, rfl, hblk, hsame, hbel, hsz⟩ := hrel
    have BK := Lib.hid hblk; have HSM := Lib.hid hsame; have BE := Lib.hid hbel
    clear hblk hsame hbel
    by_cases hlt : t < m
    · have hsn : hFold T (offs (t + 1)) = blockH (hFold T (offs t)) ((T.drop (64 * t)).take 64) := by rw [offs_succ, hFold_snoc]
      have HSN := Lib.hid hsn; clear hsn
      have K3 : Hid (Blk wr g1 153 kArr.toList) := (HSM.out g1 (by have := L12.out; have := L5.out; omega) (by have := L12.out; omega)).trans E35.out
      have hSx : Bs wr (some ⟨g5, 64 * t, none⟩) 64 (c5 - 64 * t) ((T.drop (64 * t)).take 64) := by
        have h1 := Sl.part S5.out (lo := 64 * t) (m := 64) (by omega)
        rw [Nat.zero_add] at h1
        refine Sl.keepB h1 (fun b o e => ?_)
        injection e with e
        injection e with e1 e2
        subst e1
        obtain ⟨b', o', e', hc'⟩ := S5.out.addr (by omega)
        cases e'
        exact HSM.out g5 (World.block_lt_of_cell? w5 _ (hc' 0 (by omega))) (by have := LG.out; omega)
      have SX := Lib.hid hSx; clear hSx
      have hpart := run_part64 g5 0 (64 * m) c5 t (by omega)
      rw [Nat.zero_add] at hpart
      generalize hFold T (offs t) = r at *
      have HSZ : Hid (r.cells.toArray.size = 8) := rfl
      have GW := with_any kArr kArr_tab r (some ⟨g5, 64 * t, none⟩) (c5 - 64 * t) ((T.drop (64 * t)).take 64) wr.drew (SX.out.mono (Below.refl _ _).drew)
      generalize hX : (T.drop (64 * t)).take 64 = X at *
      have HGW := Lib.hid GW; clear GW hX
      have p0 : (0 : Int) ≤ 64 * (t : Int) := by omega
      have q0 : 64 * (t : Int) + 64 ≤ 9223372036854775807 := by omega
      have t1 : 64 * (t : Int) + 64 ≤ 64 * (m : Int) := by omega
      go_wp2_with fail
      refine wp_region_still_tail 7 (by kernel_rfl) (by kernel_rfl) ?_
      simp only [List.take_succ_cons, List.take_zero, List.drop_succ_cons, List.drop_zero]
      refine wpStill_load_row rfl 153 (.tmp 3) rfl g1 rfl 153 kArr (0, 0) _ K3.out Tryd.underlying153 rfl (by rw [HKS.out]; kernel_rfl) ?_
      refine wpStill_load_row rfl 155 (.tmp 4) rfl g2 rfl 155 r.cells.toArray (0, 0) _ BK.out Tryd.underlying155 rfl (by rw [HSZ.out]; kernel_rfl) ?_
      have hw1 : IntKind.i64.wrap (64 * (t : Int) + 64) = 64 * (t : Int) + 64 := IntWalk.i64_in _ (by omega)
      repeat still_step
      refine wpStill_nil ?_
      clear hw1 hpart p0 q0 t1
      change wpList _ _ _ _ _ wr.drew
      obtain ⟨r', hr'⟩ : ∃ r', r' = blockH r X := ⟨_, rfl⟩
      rw [← hr'] at HSN HGW
      have HSZ' : Hid (r'.cells.toArray.size = 8) := rfl
      have HONE : Hid (r'.cells.toArray.all (·.oneCell') = true) := all_one_words r'.ws
      clear hr'
      go_wp2_with (first
        | (go_at_call 124; refine HGW.out.mono ?_; rintro e w6 ⟨rfl, b6⟩; have B6 : Hid (Below wr.heap.size wr w6) := ((Below.refl wr.heap.size wr).drew).trans b6; have BK6 : Hid (Blk w6 g2 155 r.cells) := BK.out.mono B6.out; clear b6)
        | (refine wpList_store_row rfl 155 (.tmp 4) (.tmp 30) rfl g2 r'.cells.toArray rfl rfl 155 r.cells.toArray BK6.out (by rw [HSZ'.out]; kernel_rfl) (by rw [HSZ'.out, HSZ.out]) HONE.out ?_))
      have F1 : Hid (Blk (w6.setRow g2 r'.cells.toArray) g2 155 (hFold T (offs (t + 1))).cells) := by rw [HSN.out]; exact setRow_heap w6 g2 _ _ _ _ BK6.out
      have F2 : Hid (∀ b, b < w5.heap.size → b ≠ g2 → (w6.setRow g2 r'.cells.toArray).heap[b]? = w5.heap[b]?) := fun b h1 h2 => (setRow_other w6 g2 b _ h2).trans ((B6.out.block b (by omega)).trans (HSM.out b h1 h2))
      have F3 : Hid (Below w.heap.size w (w6.setRow g2 r'.cells.toArray)) := below_row (below_both BE.out B6.out) LW.out _
      have F4 : Hid (w5.heap.size ≤ (w6.setRow g2 r'.cells.toArray).heap.size) := by have := B6.out.size; show _ ≤ _; simp [World.setRow]; omega
      go_roundw
      case rel => exact ⟨t + 1, by omega, by first | go_num | (congr 1; omega), F1.out, F2.out, F3.out, F4.out⟩
      case measure => simp [intOf]; omega
    · obtain rfl : t = m := by omega
      generalize hFold T (offs t) = r at *
      have HWL : Hid (r.ws.length = 8) := rfl
      have HOL := Lib.hid (fun k => outB_len (r.ws.take k))
      have HOS := Lib.hid (fun k hk => outB_snoc r.ws k hk)
      have HCE : Hid (∀ k, k < 8 → r.cells[k]? = some (.int .u32 (un (r.ws.getD k 0)))) := by
        intro k hk
        have hl8 : r.ws.length = 8 := rfl
        unfold H8.cells
        rw [List.getElem?_map, List.getElem?_eq_getElem (by omega), List.getD_eq_getElem?_getD, List.getElem?_eq_getElem (by omega)]
        rfl
      have HG2 : Hid (g2 < wr.heap.size) := BK.out.lt
      obtain ⟨wo, rfl⟩ : ∃ wo : World, wo = wr := ⟨_, rfl⟩
      go_wp2_with fail
      go_loopw [7, 8] (fun v i wr => ∃ k : Nat, k ≤ 8 ∧ i = .int .i64 k ∧ Own wo wr 5 1 v (outB (r.ws.take k)).length ((outB (r.ws.take k)).map u8c)) (fun _ i _ => 8 - (intOf i).toNat)
      case atStart => exact ⟨0, by omega, rfl, Own.nil _ _ _⟩
      case round =>
        obtain ⟨k, hk, rfl, hown⟩ := hrel
        by_cases hlt : k < 8
        · have HSN := Lib.hid (HOS.out k (by rw [HWL.out]; exact hlt))
          have hol : (outB (r.ws.take k)).length ≤ 32 := by rw [HOL.out k]; have := List.length_take_le k r.ws; omega
          have hck : wr.cell? ⟨g2, k, none⟩ = some (.int .u32 (un (r.ws.getD k 0))) := by
            rw [hown.below.cell (p := ⟨g2, k, none⟩) HG2.out, BK.out.cell]; exact HCE.out k hlt
          generalize r.ws.getD k 0 = x at *
          generalize outB (r.ws.take k) = U at *
          have HP := Lib.hid (show Calls Tryd.prog 125 #[.int .u64 (un x), .int .i64 4] wr (RetBs wr (be x.toNat 4)) from refPut_yes x.toNat 4 wr (by have := u32_lt x; omega) (by omega) (by omega))
          have r3 : IntKind.u64.wrap (un x) = un x := wrap_u64 (un_nn x) (by have := un_lt x; omega)
          have HBL := Lib.hid (be_length 4 x.toNat)
          have HO := Lib.hid hown; clear hown
          have p0 : (0 : Int) ≤ (k : Int) := by omega
          have q0 : (k : Int) < 8 := by omega
          go_wp2_with (first
            | (go_at_call 125; refine HP.out.mono ?_; rintro e w7 ⟨v7, rfl, o7⟩; obtain ⟨A7, c7, rfl, s7⟩ := o7.slice; have HO7 := Lib.hid (HO.out.mono o7.below); have hl4 : (be x.toNat 4).length ≤ 4 := (by rw [HBL.out]; omega); have HS7 := Lib.hid s7; clear o7 s7)
            | (at_builtin; refine wpList_cat rfl (.tmp 35) (.tmp 40) 22 rfl tBytes rfl HO7.out rfl HS7.out (one_bytes _) (by omega) ?_; intro v8 w8 o8))
          have HF : Hid (Own wo w8 5 1 v8 (outB (r.ws.take (k + 1))).length ((outB (r.ws.take (k + 1))).map u8c)) := by
            rw [HSN.out, List.length_append, List.map_append]; exact o8
          clear o8 r3
          go_roundw
          case rel => exact ⟨k + 1, by omega, by go_num, HF.out⟩
          case measure => simp [intOf]; omega
        · obtain rfl : k = 8 := by omega
          have hown2 : Own w wr 5 1 u7 (sumL l).length ((sumL l).map u8c) := by
            rw [HSU.out]
            rw [List.take_of_length_le (by rw [HWL.out]; omega)] at hown
            exact hown.base BE.out
          have HF := Lib.hid hown2; clear hown hown2
          go_wp2_with fail
          go_ret
          exact ⟨_, rfl, HF.out⟩
end Go.Proofs.YtbmijjodpdbbmaaDoor
