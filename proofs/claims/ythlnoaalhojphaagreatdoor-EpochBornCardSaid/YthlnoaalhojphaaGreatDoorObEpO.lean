/- Epochs: the reference's births. No condition. -/
import Derived.Test.YthlnoaalhojphaaGreatDoorObEpN
import Derived.Outline
namespace Go.Proofs.YthlnoaalhojphaaGreatDoor
open Go.RowKit
set_option linter.unusedVariables false
theorem epConv_back (x : UInt8) (k : Int) (hk : (x.toNat : Int) = k) (w : World) :
    (convert 22 9 (.slice (some ⟨w.heap.size, 0, none⟩) 1 1)).run Tryz.prog (w.alloc (.cells #[.int .u8 k] 5)) = .ok (.string ⟨#[x]⟩) (w.alloc (.cells #[.int .u8 k] 5)) := by
  refine run_convert_bytes_back (P := Tryz.prog) (w.alloc (.cells #[.int .u8 k] 5)) 22 9 5 ⟨w.heap.size, 0, none⟩ 1 [x] Tryz.underlying22 Tryz.underlying5 Tryz.underlying9 ?_
  intro j hj
  obtain rfl : j = 0 := by simp at hj; exact hj
  have := (Blk.new w 5 #[.int .u8 k]).cell 0
  subst hk
  exact this
theorem epDec_one : ∀ d, d < 10 → Lib.decDigits d = [UInt8.ofNat (48 + d)] := by decide +kernel
set_option maxHeartbeats 1000000 in
theorem epDigit_any (d : Nat) (w : World) (hd : d < 10) :
    Calls Tryz.prog 34 #[.int .i64 (d : Int)] w fun e w' => e = .returned (.string ⟨(Lib.decDigits d).toArray⟩) ∧ Gr w w' := by
  rw [epDec_one d hd]
  obtain ⟨x, hx⟩ : ∃ x : UInt8, x = UInt8.ofNat (48 + d) := ⟨_, rfl⟩
  rw [← hx]
  have t1 : decide ((d : Int) < 0) = false := decide_eq_false (by omega)
  have t2 : decide ((d : Int) < 10) = true := decide_eq_true (by omega)
  have h8 : IntKind.u8.wrap (48 + (d : Int)) = 48 + d := by
    rw [IntWalk.u8_in _ (by omega)]
  have hcv := epConv_back x (48 + (d : Int)) (by rw [hx]; simp; omega) w
  clear hx
  have hg := Gr.alloc w (.cells #[.int .u8 (48 + (d : Int))] 5)
  go_enter Tryz.func34, Tryz.ntmps34
  go_wp2
  go_ret
  exact ⟨rfl, hg⟩
def bornR (k : List UInt8) (n : Nat) : Brt := ⟨deriveL k exS, deriveL k inS, (List.range n).map fun j => deriveL k (senderS j)⟩
def RetRb (w : World) (b : Brt) (e : Ending) (w' : World) : Prop := ∃ (A1 : Option Addr) (c1 : Nat) (A2 : Option Addr) (c2 : Nat) (A3 : Option Addr) (c3 : Nat) (R : List CRow), e = .returned (.agg #[.slice A1 32 c1, .slice A2 32 c2, .slice A3 R.length c3]) ∧ Bs w' A1 32 c1 b.ex ∧ Bs w' A2 32 c2 b.ini ∧ Rch w' A3 R.length c3 R ∧ R.map (fun r => r.x.l) = b.ch ∧ Gr w w'
theorem senderS_len (j : Nat) (h : j < 100) : (senderS j).length ≤ 9 := by unfold senderS; rw [List.length_append]; have := dec_len2 j h; simp; omega
/-- A row of the call's own, when a block ahead of it is turned. -/
theorem own_far_sl {W wr : World} {pr : Nat} {e : TypeId} {s m : Nat} {v : Value} {xs : List Value} (h : Own W wr e s v m xs) (hp : pr < W.heap.size) (cs : Array Value) : ∃ A c, v = .slice A m c ∧ Sl (wr.setRow pr cs) A m c s xs := by
  obtain ⟨A, c, rfl, hs⟩ := h.slice
  exact ⟨A, c, rfl, Sl.keepB hs (fun b o e => setRow_other wr pr b _ (fun hb => by
    have := (h.1.lt b (by rw [e]; rfl)).1
    omega))⟩
set_option maxRecDepth 100000 in
set_option maxHeartbeats 2000000 in
theorem refBorn34_any (A : Option Addr) (c : Nat) (k : List UInt8) (n : Nat) (w : World) (hk : Bs w A 32 c k) (hn : n ≤ 4) :
    Calls Tryz.prog 14 #[.slice A 32 c, .int .i64 (n : Int)] w (RetRb w (bornR k n)) := by
  obtain ⟨W, hW⟩ : ∃ W, W = w.alloc (.cells #[.slice none 0 0, .slice none 0 0, .slice none 0 0] 41) := ⟨_, rfl⟩
  have hGW : Gr w W := by rw [hW]; exact Gr.alloc _ _
  have HZ : Hid (w.heap.size < W.heap.size) := by rw [hW]; show _ < _; simp
  have b0 : Blk W w.heap.size 41 [.slice none 0 0, .slice none 0 0, .slice none 0 0] := by rw [hW]; exact Blk.new w _ _
  have HW := Lib.hid hW; have HGW := Lib.hid hGW; have B0 := Lib.hid b0; have HK := Lib.hid (hk.mono hGW)
  clear hW hGW b0 hk
  go_enter Tryz.func14, Tryz.ntmps14
  go_wp2_with fail
  rw [← HW.out]
  refine (refDeriveO_any A 32 c k exS W HK.out (by omega) (by decide)).mono ?_
  rintro e w1 ⟨v1, rfl, o1⟩
  rw [deriveL_len] at o1
  obtain ⟨A1, c1, rfl, s1⟩ := o1.slice
  have G1 : Hid (Gr W w1) := o1.below
  have S1 := Lib.hid o1
  clear o1 s1
  go_wp2_with fail
  refine (refDeriveO_any A 32 c k inS w1 (HK.out.mono G1.out) (by omega) (by decide)).mono ?_
  rintro e w2 ⟨v2, rfl, o2⟩
  rw [deriveL_len] at o2
  obtain ⟨A2, c2, rfl, s2⟩ := o2.slice
  have G2 : Hid (Gr W w2) := G1.out.trans o2.below
  have S12 := Lib.hid (S1.out.mono o2.below); have S22 := Lib.hid (o2.base G1.out)
  clear o2 s2 S1
  have GA : Hid (Gr w2 (w2.alloc (.cells #[.slice A1 32 c1, .slice A2 32 c2, .slice none 0 0] 41))) := Gr.alloc _ _
  have BA : Hid (Blk (w2.alloc (.cells #[.slice A1 32 c1, .slice A2 32 c2, .slice none 0 0] 41)) w2.heap.size 41 [.slice A1 32 c1, .slice A2 32 c2, .slice none 0 0]) := Blk.new _ _ _
  go_wp2_with fail
  generalize hw3 : w2.alloc (.cells #[.slice A1 32 c1, .slice A2 32 c2, .slice none 0 0] 41) = w3 at *
  go_loopw [6] (fun i wr => ∃ (j : Nat) (v : Value) (R : List CRow), j ≤ n ∧ i = .int .i64 (j : Int) ∧ Blk wr w2.heap.size 41 [.slice A1 32 c1, .slice A2 32 c2, v] ∧ Own w2 wr 76 3 v R.length (R.flatMap CRow.cells) ∧ R.length = j ∧ R.map (fun r => r.x.l) = (List.range j).map (fun j => deriveL k (senderS j)) ∧ ∀ r ∈ R, r.d ≤ maxLen ∧ Own w2 wr 5 1 r.x.v r.x.n (r.x.l.map u8c)) (fun i _ => n - (Go.RowKit.intOf i).toNat)
  case atStart => exact ⟨0, _, [], Nat.zero_le _, rfl, BA.out, Own.nil' GA.out _ _, rfl, rfl, fun r hr => by cases hr⟩
  case round =>
    obtain ⟨j, v, R, hj, rfl, bk, own, rl, rm, rd⟩ := hrel
    have BK := Lib.hid bk; have OW := Lib.hid own; have RL := Lib.hid rl; have RM := Lib.hid rm; have RD := Lib.hid rd
    have GR : Hid (Gr w2 wr) := own.below
    by_cases hlt : j < n
    · have y2 : wr.cell? ⟨w2.heap.size, 2, none⟩ = some v := (bk.cell 2).trans rfl
      have hlt2 : (j : Int) < n := by omega
      have hsl := senderS_len j (by omega)
      have hlg : ¬ 9223372036854775807 < 7 + (Lib.decDigits j).length := by have := dec_len2 j (by omega); omega
      have HSS := Lib.hid (senderS_str j)
      clear bk own rl rm rd
      go_upto_region 5 with fail
      refine wp_region_pre (by kernel_rfl) (fun w' => w'.cell? ⟨w2.heap.size, 2, none⟩ = some v) (fun i => i == 1) (fun i => Nat.ble 9 i) [0, 2, 3, 1] 8 (by kernel_rfl) (by kernel_rfl) (by kernel_rfl) y2 ?_
      refine wpPre_e rfl rfl ?_
      apply Exists.intro
      refine ⟨fun wq hq => ?_, ?_⟩
      · clear hq
        unfold plainAt
        go_simp
        first | exact rfl | exact ⟨rfl, rfl⟩
      go_simp
      refine wpPre_e rfl rfl ?_
      apply Exists.intro
      refine ⟨fun wq hq => ?_, ?_⟩
      · clear hq
        unfold plainAt
        go_simp
        first | exact rfl | exact ⟨rfl, rfl⟩
      go_simp
      refine wpPre_e rfl rfl ?_
      apply Exists.intro
      refine ⟨fun wq hq => ?_, ?_⟩
      · clear hq
        unfold plainAt
        go_simp
        first | exact rfl | exact ⟨rfl, rfl⟩
      go_simp
      refine wpPre_e rfl rfl ?_
      apply Exists.intro
      refine ⟨fun wq hq => ?_, ?_⟩
      · replace hq := hq rfl
        have z0 := hq
        unfold plainAt
        go_simp
        first | exact rfl | exact ⟨rfl, rfl⟩
      go_simp
      refine wpPre_nil ?_
      clear y2
      refine wpRest_one (i := 4) (by kernel_rfl) rfl rfl ?_
      intro K hK
      go_simp
      go_at_call 34
      refine (epDigit_any j wr.drew (by omega)).mono ?_
      rintro e w4 ⟨rfl, g4⟩
      have G4 : Hid (Gr wr w4) := (Gr.drew wr).trans g4
      refine hK _ _ (fun _ => ((G4.out.blk BK.out).cell 2).trans rfl) ?_
      clear hK g4
      go_simp
      refine wpRest_one (i := 5) (by kernel_rfl) rfl rfl ?_
      intro K hK
      go_simp
      rw [HSS.out]
      refine hK _ _ (fun _ => ((G4.out.blk BK.out).cell 2).trans rfl) ?_
      clear hK
      go_simp
      refine wpRest_one (i := 6) (by kernel_rfl) rfl rfl ?_
      intro K hK
      go_simp
      go_at_call 33
      refine (refDeriveO_any A 32 c k (senderS j) w4 (HK.out.mono (G2.out.trans (GR.out.trans G4.out))) (by omega) (by omega)).mono ?_
      rintro e w5 ⟨v5, rfl, o5⟩
      rw [deriveL_len] at o5
      obtain ⟨A5, c5, rfl, _⟩ := o5.slice
      have G5 : Hid (Gr wr w5) := G4.out.trans o5.below
      have O5 := Lib.hid (o5.base (GR.out.trans G4.out))
      refine hK _ _ (fun _ => ((G5.out.blk BK.out).cell 2).trans rfl) ?_
      clear hK o5
      go_simp
      refine wpRest_one (i := 7) (by kernel_rfl) rfl rfl ?_
      intro K hK
      go_simp
      refine hK _ _ (fun _ => ((G5.out.blk BK.out).cell 2).trans rfl) ?_
      clear hK
      go_simp
      refine wpRest_one (i := 8) (by kernel_rfl) rfl rfl ?_
      intro K hK
      go_simp
      have N6 : Hid (Blk (w5.alloc (.cells #[.int .i64 0, .slice A5 32 c5, .slice none 0 0] 76)) w5.heap.size 76 [.int .i64 0, .slice A5 32 c5, .slice none 0 0]) := Blk.new _ _ _
      have G6 : Hid (Gr wr (w5.alloc (.cells #[.int .i64 0, .slice A5 32 c5, .slice none 0 0] 76))) := G5.out.trans (Gr.alloc _ _)
      have O6 := Lib.hid (O5.out.alloc (.cells #[.int .i64 0, .slice A5 32 c5, .slice none 0 0] 76))
      generalize hW6 : w5.alloc (.cells #[.int .i64 0, .slice A5 32 c5, .slice none 0 0] 76) = w6 at *
      refine hK _ _ (fun _ => ((G6.out.blk BK.out).cell 2).trans rfl) ?_
      clear hK
      go_simp
      refine wpRest_one (i := 9) (by kernel_rfl) rfl rfl ?_
      intro K hK
      refine wp_pushG (.tmp 19) (.tmp 26) 39 rfl tRef rfl (OW.out.mono G6.out) _ _ (CRow.cells ⟨⟨A5, 32, c5, deriveL k (senderS j)⟩, none, 0⟩) rfl rfl (CRow.one _) (fun i u hu => by rw [N6.out.cell]; exact hu) (by have := RL.out; omega) ?_
      intro v7 w7 own7 kept7
      have o6 := (OW.out.mono G6.out).1
      have P7 := Lib.hid (keptBlk o6 kept7 (G6.out.blk BK.out) (by decide))
      obtain ⟨A7, c7, rfl, _⟩ := own7.slice
      have O7 := Lib.hid own7
      have O67 := Lib.hid (own_of_blk (fun g cs hb => keptBlk o6 kept7 hb (by decide)) O6.out own7.below)
      have RD7 : Hid (∀ r ∈ R, r.d ≤ maxLen ∧ Own w2 w7 5 1 r.x.v r.x.n (r.x.l.map u8c)) := fun r hr => ⟨(RD.out r hr).1, own_of_blk (fun g cs hb => keptBlk o6 kept7 hb (by decide)) ((RD.out r hr).2.mono G6.out) own7.below⟩
      clear own7 kept7 o6
      have y7 : w7.cell? ⟨w2.heap.size, 2, none⟩ = some v := (P7.out.cell 2).trans rfl
      have f7 := P7.out.free 2
      refine hK _ _ (fun q => by cases q) ?_
      clear hK
      go_simp
      refine wpRest_one (i := 10) (by kernel_rfl) rfl rfl ?_
      intro K hK
      go_simp
      refine hK _ _ (fun q => by cases q) ?_
      clear hK
      go_simp
      refine wpRest_one (i := 11) (by kernel_rfl) rfl rfl ?_
      intro K hK
      go_simp
      refine hK _ _ (fun q => by cases q) ?_
      clear hK
      go_simp
      refine wpRest_nil (by kernel_rfl) ?_
      have B8 : Hid (Below w2.heap.size w7 (w7.setCell ⟨w2.heap.size, 2, none⟩ (.slice A7 (R.length + 1) c7))) := (Below.refl _ _).setCell (p := ⟨w2.heap.size, 2, none⟩) (Nat.le_refl _) _
      have O8 : Hid (Own w2 (w7.setCell ⟨w2.heap.size, 2, none⟩ (.slice A7 (R.length + 1) c7)) 76 3 (.slice A7 (R.length + 1) c7) (R ++ [(⟨⟨A5, 32, c5, deriveL k (senderS j)⟩, none, 0⟩ : CRow)]).length ((R ++ [(⟨⟨A5, 32, c5, deriveL k (senderS j)⟩, none, 0⟩ : CRow)]).flatMap CRow.cells)) := by
        rw [List.length_append, List.flatMap_append, List.flatMap_singleton]
        exact own_of_blk (blk_set_far P7.out (by decide)) O7.out (O7.out.below.trans B8.out)
      clear y7 f7 hlg
      go_wp2_with fail
      go_roundw
      case rel => exact ⟨j + 1, _, R ++ [(⟨⟨A5, 32, c5, deriveL k (senderS j)⟩, none, 0⟩ : CRow)], by omega, by go_num, P7.out.set 2 _, O8.out, by rw [List.length_append, RL.out]; rfl, by rw [List.map_append, RM.out, List.range_succ, List.map_append]; rfl, fun r hr => by
        rcases List.mem_append.1 hr with hr | hr
        · exact ⟨(RD7.out r hr).1, own_of_blk (blk_set_far P7.out (by decide)) (RD7.out r hr).2 (O7.out.below.trans B8.out)⟩
        · obtain rfl := List.mem_singleton.1 hr
          exact ⟨Nat.zero_le _, own_of_blk (blk_set_far P7.out (by decide)) O67.out (O7.out.below.trans B8.out)⟩⟩
      case measure => simp [Go.RowKit.intOf]; omega
    · obtain rfl : j = n := by omega
      obtain ⟨Av, cv, rfl, sv⟩ := own.slice
      have y0 : wr.cell? ⟨w2.heap.size, 0, none⟩ = some (.slice A1 32 c1) := (bk.cell 0).trans rfl
      have y1 : wr.cell? ⟨w2.heap.size, 1, none⟩ = some (.slice A2 32 c2) := (bk.cell 1).trans rfl
      have y2 : wr.cell? ⟨w2.heap.size, 2, none⟩ = some (.slice Av R.length cv) := (bk.cell 2).trans rfl
      have PR := Lib.hid (GR.out.blk (G2.out.blk B0.out))
      clear bk own rl rm rd sv
      go_wp2_with (refine wpList_store_row rfl 41 (.tmp 4) (.tmp 29) rfl w.heap.size #[.slice A1 32 c1, .slice A2 32 c2, .slice Av R.length cv] rfl rfl 41 #[.slice none 0 0, .slice none 0 0, .slice none 0 0] PR.out rbSize rfl (by simp [Value.oneCell']) ?_)
      have hN : (wr.setRow w.heap.size #[.slice A1 32 c1, .slice A2 32 c2, .slice Av R.length cv]).heap[w.heap.size]? = some (.cells #[.slice A1 32 c1, .slice A2 32 c2, .slice Av R.length cv] 41 (0, 0)) := setRow_heap wr w.heap.size _ _ _ _ PR.out
      have GT : Hid (Gr w wr) := HGW.out.trans (G2.out.trans GR.out)
      have hB : Below w.heap.size w (wr.setRow w.heap.size #[.slice A1 32 c1, .slice A2 32 c2, .slice Av R.length cv]) := below_row GT.out (Nat.le_refl _) _
      obtain ⟨_, _, e1, r1⟩ := own_far_sl (S12.out.mono GR.out) HZ.out #[.slice A1 32 c1, .slice A2 32 c2, .slice Av R.length cv]
      obtain ⟨_, _, e2, r2⟩ := own_far_sl (S22.out.mono GR.out) HZ.out #[.slice A1 32 c1, .slice A2 32 c2, .slice Av R.length cv]
      obtain ⟨_, _, e3, r3⟩ := own_far_sl (OW.out.base G2.out) HZ.out #[.slice A1 32 c1, .slice A2 32 c2, .slice Av R.length cv]
      injection e1 with e1 _ e1'
      injection e2 with e2 _ e2'
      injection e3 with e3 _ e3'
      subst e1 e1' e2 e2' e3 e3'
      have hR : Rch (wr.setRow w.heap.size #[.slice A1 32 c1, .slice A2 32 c2, .slice Av R.length cv]) Av R.length cv R := ⟨r3, rfl, fun r hr => by
        obtain ⟨_, _, e, hs⟩ := own_far_sl ((RD.out r hr).2.base G2.out) HZ.out #[.slice A1 32 c1, .slice A2 32 c2, .slice Av R.length cv]
        unfold BRow.v at e
        injection e with e _ e'
        rw [e, e']
        exact ⟨hs, (RD.out r hr).1⟩⟩
      exact bodyPost_ret (v := .agg #[.slice A1 32 c1, .slice A2 32 c2, .slice Av R.length cv]) (results_cell_row Tryz.results14 _ _ w.heap.size 41 _ (0, 0) _ rfl hN Tryz.underlying41 rfl rbSize) rfl ⟨A1, c1, A2, c2, Av, cv, R, rfl, r1, r2, hR, RM.out, hB⟩
theorem refMix09_any (A B : Option Addr) (n c m d : Nat) (k t : List UInt8) (w : World) (h : Bs w A n c k) (hn : n ≤ 50000) (ht : Bs w B m d t) (hm : m ≤ 40000) :
    Calls Tryz.prog 35 #[.slice A n c, .slice B m d] w (RetBs w (macL k t)) := by
  have HM := Lib.hid (refMac_any A B n c m d k t w h hn ht hm)
  clear h ht
  go_enter Tryz.func35, Tryz.ntmps35
  go_wp2_with fail
  refine HM.out.mono ?_
  rintro e w1 ⟨v, rfl, o⟩
  have O := Lib.hid o; clear o
  go_wp2_with fail
  go_ret
  exact ⟨v, rfl, O.out⟩
theorem sl_row_far {w : World} {A : Option Addr} {n c s g : Nat} {t : TypeId} {xs cs : List Value} (h : Sl w A n c s xs) (hs : 0 < s) (hb : Blk w g t cs) (hk : ∀ u ∈ cs, ∀ x, xs[0]? = some x → u ≠ x) (new : Array Value) : Sl (w.setRow g new) A n c s xs := by
  rcases Nat.eq_zero_or_pos n with h0 | h0
  · exact ⟨h.1, h.2.1, h.2.2.1, fun h => absurd h (by omega)⟩
  · exact Sl.keepB h (fun b o e => setRow_other w g b _ (Sl.not_blk h hs hb hk h0 e))
theorem bs_row_far {w : World} {A : Option Addr} {n c g : Nat} {t : TypeId} {l : List UInt8} (h : Bs w A n c l) (hb : Blk w g t [.slice none 0 0, .slice none 0 0, .slice none 0 0]) (new : Array Value) : Bs (w.setRow g new) A n c l :=
  sl_row_far h (by decide) hb (fun u hu x hx e => by
    subst e
    rw [List.getElem?_map] at hx
    obtain ⟨y, _, hy⟩ := Option.map_eq_some_iff.1 hx
    simp at hu
    rw [hu] at hy
    cases hy) new
theorem rch_row_far {w : World} {A : Option Addr} {n c g : Nat} {t : TypeId} {R : List CRow} (h : Rch w A n c R) (hb : Blk w g t [.slice none 0 0, .slice none 0 0, .slice none 0 0]) (new : Array Value) : Rch (w.setRow g new) A n c R :=
  ⟨sl_row_far h.1 (by decide) hb (fun u hu x hx e => by
    subst e
    match R, hx with
    | [], hx => cases hx
    | r :: R, hx =>
      injection hx with hx
      simp at hu
      rw [hu] at hx
      cases hx) new, h.2.1, fun r hr => ⟨bs_row_far (h.2.2 r hr).1 hb new, (h.2.2 r hr).2⟩⟩
set_option maxRecDepth 100000 in
set_option maxHeartbeats 1000000 in
theorem refFirst34_any (A : Option Addr) (c : Nat) (k : List UInt8) (n : Nat) (w : World) (hk : Bs w A 32 c k) (hn : n ≤ 4) :
    Calls Tryz.prog 13 #[.slice A 32 c, .int .i64 (n : Int)] w (RetRb w (bornR (deriveL k joinS) n)) := by
  obtain ⟨rb, hrb⟩ : ∃ rb, rb = bornR (deriveL k joinS) n := ⟨_, rfl⟩
  rw [← hrb]
  have HRB := Lib.hid hrb
  obtain ⟨W, hW⟩ : ∃ W, W = w.alloc (.cells #[.slice none 0 0, .slice none 0 0, .slice none 0 0] 41) := ⟨_, rfl⟩
  have hGW : Gr w W := by rw [hW]; exact Gr.alloc _ _
  have b0 : Blk W w.heap.size 41 [.slice none 0 0, .slice none 0 0, .slice none 0 0] := by rw [hW]; exact Blk.new w _ _
  have HW := Lib.hid hW; have HGW := Lib.hid hGW; have B0 := Lib.hid b0; have HK := Lib.hid (hk.mono hGW)
  clear hW hGW b0 hk hrb
  go_enter Tryz.func13, Tryz.ntmps13
  go_wp2_with fail
  rw [← HW.out]
  refine (refDeriveO_any A 32 c k joinS W HK.out (by omega) (by decide)).mono ?_
  rintro e w1 ⟨v1, rfl, o1⟩
  rw [deriveL_len] at o1
  obtain ⟨A1, c1, rfl, s1⟩ := o1.slice
  have G1 : Hid (Gr w w1) := HGW.out.trans o1.below
  have PB1 := Lib.hid (Gr.blk o1.below B0.out)
  have HB := Lib.hid (refBorn34_any A1 c1 (deriveL k joinS) n w1 s1 hn)
  rw [← HRB.out] at HB
  clear o1 s1
  go_wp2_with fail
  refine HB.out.mono ?_
  rintro e w3 hret
  obtain ⟨A1, c1, A2, c2, A3, c3, R, rfl, r1, r2, r3, rm, g3⟩ := hret
  have PB3 := Lib.hid (g3.blk PB1.out)
  have FIN : Hid (RetRb w rb (.returned (.agg #[.slice A1 32 c1, .slice A2 32 c2, .slice A3 R.length c3])) (w3.setRow w.heap.size #[.slice A1 32 c1, .slice A2 32 c2, .slice A3 R.length c3])) := ⟨A1, c1, A2, c2, A3, c3, R, rfl, bs_row_far r1 PB3.out _, bs_row_far r2 PB3.out _, rch_row_far r3 PB3.out _, rm, below_row (G1.out.trans g3) (Nat.le_refl _) _⟩
  clear r1 r2 r3 rm g3
  go_wp2_with (refine wpList_store_row rfl 41 (.tmp 4) (.tmp 8) rfl w.heap.size #[.slice A1 32 c1, .slice A2 32 c2, .slice A3 R.length c3] rfl rfl 41 #[.slice none 0 0, .slice none 0 0, .slice none 0 0] PB3.out rbSize rfl (by simp [Value.oneCell']) ?_)
  have hN : (w3.setRow w.heap.size #[.slice A1 32 c1, .slice A2 32 c2, .slice A3 R.length c3]).heap[w.heap.size]? = some (.cells #[.slice A1 32 c1, .slice A2 32 c2, .slice A3 R.length c3] 41 (0, 0)) := setRow_heap w3 w.heap.size _ _ _ _ PB3.out
  exact bodyPost_ret (v := .agg #[.slice A1 32 c1, .slice A2 32 c2, .slice A3 R.length c3]) (results_cell_row Tryz.results13 _ _ w.heap.size 41 _ (0, 0) _ rfl hN Tryz.underlying41 rfl rbSize) rfl FIN.out
set_option maxRecDepth 100000 in
set_option maxHeartbeats 1000000 in
theorem refNext34_any (A B : Option Addr) (c d : Nat) (i k : List UInt8) (n : Nat) (w : World) (hi : Bs w B 32 d i) (hk : Bs w A 32 c k) (hn : n ≤ 4) :
    Calls Tryz.prog 15 #[.slice B 32 d, .slice A 32 c, .int .i64 (n : Int)] w (RetRb w (bornR (deriveL (macL i k) joinS) n)) := by
  obtain ⟨rb, hrb⟩ : ∃ rb, rb = bornR (deriveL (macL i k) joinS) n := ⟨_, rfl⟩
  rw [← hrb]
  have HRB := Lib.hid hrb
  obtain ⟨W, hW⟩ : ∃ W, W = w.alloc (.cells #[.slice none 0 0, .slice none 0 0, .slice none 0 0] 41) := ⟨_, rfl⟩
  have hGW : Gr w W := by rw [hW]; exact Gr.alloc _ _
  have b0 : Blk W w.heap.size 41 [.slice none 0 0, .slice none 0 0, .slice none 0 0] := by rw [hW]; exact Blk.new w _ _
  have HW := Lib.hid hW; have HGW := Lib.hid hGW; have B0 := Lib.hid b0; have HK := Lib.hid (hk.mono hGW); have HI := Lib.hid (hi.mono hGW)
  clear hW hGW b0 hk hi hrb
  go_enter Tryz.func15, Tryz.ntmps15
  go_wp2_with fail
  rw [← HW.out]
  refine (refMix09_any B A 32 d 32 c i k W HI.out (by omega) HK.out (by omega)).mono ?_
  rintro e w1 ⟨v1, rfl, o1⟩
  rw [macL_len] at o1
  obtain ⟨A1, c1, rfl, s1⟩ := o1.slice
  have G0 : Hid (Gr W w1) := o1.below
  have HD := Lib.hid (refDeriveO_any A1 32 c1 (macL i k) joinS w1 s1 (by omega) (by decide))
  clear o1 s1
  go_wp2_with fail
  refine HD.out.mono ?_
  rintro e w2 ⟨v2, rfl, o2⟩
  rw [deriveL_len] at o2
  obtain ⟨A2, c2, rfl, s2⟩ := o2.slice
  have G1 : Hid (Gr w w2) := HGW.out.trans (G0.out.trans o2.below)
  have PB1 := Lib.hid ((G0.out.trans o2.below).blk B0.out)
  have HB := Lib.hid (refBorn34_any A2 c2 (deriveL (macL i k) joinS) n w2 s2 hn)
  rw [← HRB.out] at HB
  clear o2 s2
  go_wp2_with fail
  refine HB.out.mono ?_
  rintro e w3 hret
  obtain ⟨A1, c1, A2, c2, A3, c3, R, rfl, r1, r2, r3, rm, g3⟩ := hret
  have PB3 := Lib.hid (g3.blk PB1.out)
  have FIN : Hid (RetRb w rb (.returned (.agg #[.slice A1 32 c1, .slice A2 32 c2, .slice A3 R.length c3])) (w3.setRow w.heap.size #[.slice A1 32 c1, .slice A2 32 c2, .slice A3 R.length c3])) := ⟨A1, c1, A2, c2, A3, c3, R, rfl, bs_row_far r1 PB3.out _, bs_row_far r2 PB3.out _, rch_row_far r3 PB3.out _, rm, below_row (G1.out.trans g3) (Nat.le_refl _) _⟩
  clear r1 r2 r3 rm g3
  go_wp2_with (refine wpList_store_row rfl 41 (.tmp 6) (.tmp 12) rfl w.heap.size #[.slice A1 32 c1, .slice A2 32 c2, .slice A3 R.length c3] rfl rfl 41 #[.slice none 0 0, .slice none 0 0, .slice none 0 0] PB3.out rbSize rfl (by simp [Value.oneCell']) ?_)
  have hN : (w3.setRow w.heap.size #[.slice A1 32 c1, .slice A2 32 c2, .slice A3 R.length c3]).heap[w.heap.size]? = some (.cells #[.slice A1 32 c1, .slice A2 32 c2, .slice A3 R.length c3] 41 (0, 0)) := setRow_heap w3 w.heap.size _ _ _ _ PB3.out
  exact bodyPost_ret (v := .agg #[.slice A1 32 c1, .slice A2 32 c2, .slice A3 R.length c3]) (results_cell_row Tryz.results15 _ _ w.heap.size 41 _ (0, 0) _ rfl hN Tryz.underlying41 rfl rbSize) rfl FIN.out
end Go.Proofs.YthlnoaalhojphaaGreatDoor
