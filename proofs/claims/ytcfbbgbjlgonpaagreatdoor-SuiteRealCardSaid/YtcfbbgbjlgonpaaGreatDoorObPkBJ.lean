/- Own texts of this claim, one behind the other. No condition. -/
import Derived.Test.YtcfbbgbjlgonpaaGreatDoorObPkAR
import Derived.Test.YtcfbbgbjlgonpaaGreatDoorObPkAS
import Derived.Test.YtcfbbgbjlgonpaaGreatDoorObPkBI

/- The reference of layer 11: Schedule, Encrypt. No condition. -/
namespace Go.Proofs.YtcfbbgbjlgonpaaGreatDoor
open Go.RowKit
set_option linter.unusedVariables false
set_option linter.unusedSimpArgs false
theorem sizeR (l : List UInt8) (hl : l.length = 240) : (Tryz.prog.info? 152).map (·.size) = some (l.map u8c).toArray.size := by rw [arr_size, hl]; kernel_rfl
theorem results_keysR {fn : Func} {p u : Tmp} (h : fn.results = #[.cell p 152, .tmp u]) (tmps : Array Value) (w : World) (g : Nat) (l : List UInt8) (hl : l.length = 240)
    (hp : tmps.getD p undef = .pointer (some ⟨g, 0, none⟩)) (hg : By w g 152 l) :
    (results fn tmps).run Tryz.prog w = .ok (.tuple #[arr l, tmps.getD u undef]) w := by
  rw [results_cell_tmp h, hp]
  simp only [asAddr, Sem.run_pure, Result.andThen, run_loadVar_row w g 152 152 (l.map u8c).toArray (0, 0) _ hg Tryz.underlying152 rfl (sizeR l hl)]
  rfl
/-- The result's block, the keys' block, the words' block. -/
structure KSch (w : World) (h g5 : Nat) (M F : List UInt8) (W : World) : Prop where
  gr : Gr w W
  a : By W h 152 (List.replicate 240 0)
  b : By W (h + 1) 152 M
  f : By W g5 191 F
theorem KSch.mono {w W W' : World} {h g5 : Nat} {M F : List UInt8} (q : KSch w h g5 M F W) (g : Gr W W') : KSch w h g5 M F W' := ⟨q.gr.trans g, g.blk q.a, g.blk q.b, g.blk q.f⟩
theorem KSch.put {w W : World} {h g5 : Nat} {M F : List UInt8} (q : KSch w h g5 M F W) (hw : w.heap.size ≤ h) (hg : h + 1 < g5) (k : Nat) (v : UInt8) : KSch w h g5 (M.set k v) F (W.setCell ⟨h + 1, k, none⟩ (.int .u8 (ub v))) :=
  ⟨q.gr.setCell (p := ⟨h + 1, k, none⟩) (by show w.heap.size ≤ h + 1; omega) _, (Below.heap_setCell _ ⟨h + 1, k, none⟩ _ h (by show h ≠ h + 1; omega)).trans q.a, q.b.put k v, (Below.heap_setCell _ ⟨h + 1, k, none⟩ _ g5 (by show g5 ≠ h + 1; omega)).trans q.f⟩
set_option maxRecDepth 100000 in
set_option maxHeartbeats 4000000 in
theorem refSchedule_any (A : Option Addr) (c : Nat) (key : List UInt8) (w : World) (hb : Bs w A 32 c key) :
    Calls Tryz.prog 175 #[.slice A 32 c] w fun e w' => e = .returned (.tuple #[arr (schedL key), .int .i64 0]) ∧ Gr w w' := by
  have HFL := Lib.hid (schedL_len (hb.len : key.length = 32))
  have HB := Lib.hid hb
  have hcp := hb.cap; have hmx := hb.max
  clear hb
  obtain ⟨F, hF⟩ : ∃ F, F = schedL key := ⟨_, rfl⟩
  have HWD := Lib.hid (fun W hW => refKeyWords_any A c key W hW)
  rw [← hF] at HFL HWD ⊢
  clear hF
  unfold arr at HWD ⊢
  go_enter Tryz.func175, Tryz.ntmps175
  go_upto_region 1 with fail
  obtain ⟨W1, hW1⟩ : ∃ W1, W1 = w.alloc (.cells (reps 240 (.int .u8 0)).toArray 152) := ⟨_, rfl⟩
  first | rw [← hW1] | (change Code.wp _ _ _ _ (w.alloc (.cells (reps 240 (.int .u8 0)).toArray 152)); rw [← hW1])
  have HZ1 : Hid (By W1 w.heap.size 152 (List.replicate 240 0)) := by rw [hW1]; exact heap_alloc_new w _
  have HG1 : Hid (Gr w W1) := by rw [hW1]; exact Gr.alloc _ _
  have HS1 : Hid (W1.heap.size = w.heap.size + 1) := by show _ = _; rw [hW1]; simp
  clear hW1
  go_upto_region 2 with fail
  obtain ⟨W2, hW2⟩ : ∃ W2, W2 = W1.alloc (.cells (reps 240 (.int .u8 0)).toArray 152) := ⟨_, rfl⟩
  first | rw [← hW2] | (change Code.wp _ _ _ _ (W1.alloc (.cells (reps 240 (.int .u8 0)).toArray 152)); rw [← hW2])
  rw [HS1.out]
  have HZ2 : Hid (By W2 (w.heap.size + 1) 152 (List.replicate 240 0)) := by
    rw [← HS1.out, hW2]
    exact heap_alloc_new W1 _
  have HG2 : Hid (Gr W1 W2) := by rw [hW2]; exact Gr.alloc _ _
  obtain ⟨h, hh⟩ : ∃ h, h = w.heap.size := ⟨_, rfl⟩
  rw [← hh] at HZ2 HZ1 ⊢
  have HH := Lib.hid hh; clear hh hW2 HS1
  have HA2 : Hid (By W2 h 152 (List.replicate 240 0)) := HG2.out.blk HZ1.out
  have HG12 : Hid (Gr w W2) := HG1.out.trans HG2.out
  have HWW := Lib.hid (HWD.out W2 (HB.out.mono HG12.out))
  clear HG1 HG2 HZ1
  go_upto_region 5 with (first
    | (go_at_call 192; refine HWW.out.mono ?_; rintro e w3 ⟨rfl, g3⟩; have G3 := Lib.hid g3; clear g3)
    | (refine wpList_store_row rfl 191 (.tmp 5) (.tmp 13) rfl w3.heap.size (F.map u8c).toArray rfl rfl 191 _ (show By _ w3.heap.size 191 (List.replicate 240 0) from heap_alloc_new w3 _) (sizeW _ HFL.out) (by rw [arr_size, arr_size, HFL.out]; rfl) (arr_one _) ?_))
  obtain ⟨W4, hW4⟩ : ∃ W4, W4 = (w3.alloc (.cells Tryz.zeroCells191 191)).setRow w3.heap.size (F.map u8c).toArray := ⟨_, rfl⟩
  obtain ⟨g5, hg5⟩ : ∃ g5, g5 = w3.heap.size := ⟨_, rfl⟩
  have HNE : Hid (h + 1 < g5) := by show _ < _; rw [hg5]; exact Nat.lt_of_lt_of_le (Blk.lt HZ2.out) G3.out.size
  have hz : By (w3.alloc (.cells Tryz.zeroCells191 191)) w3.heap.size 191 (List.replicate 240 0) := heap_alloc_new w3 _
  have hG4 : Gr W2 W4 := by rw [hW4]; exact byRow_below (G3.out.trans (Gr.alloc _ _)) G3.out.size _
  have K4 : Hid (KSch w h g5 (List.replicate 240 0) F W4) := ⟨HG12.out.trans hG4, hG4.blk HA2.out, hG4.blk HZ2.out, by rw [hW4, hg5]; exact hz.row⟩
  rw [← hW4, ← hg5]
  clear hW4 hg5 hz hG4 HA2 HZ2 HG12 G3 HWW HWD
  go_wp2_with fail
  go_loopw [6] (fun i wr => ∃ t : Nat, t ≤ 60 ∧ i = .int .i64 (t : Int) ∧ KSch w h g5 (toK F (4 * t) 240) F wr) (fun i _ => 60 - (Go.RowKit.intOf i).toNat)
  case atStart => exact ⟨0, Nat.zero_le _, rfl, by rw [Nat.mul_zero, toK_zero]; exact K4.out⟩
  case round =>
    obtain ⟨t, ht, rfl, s⟩ := hrel
    have K5 := Lib.hid s; clear s
    have p0 : (0 : Int) ≤ t := by omega
    by_cases hlt : t < 60
    · have t0 : decide ((t : Int) < 60) = true := decide_eq_true (by omega)
      go_wp2_with fail
      go_loopw [7] (fun i wx => ∃ r : Nat, r ≤ 4 ∧ i = .int .i64 (r : Int) ∧ KSch w h g5 (toK F (4 * t + r) 240) F wx) (fun i _ => 4 - (Go.RowKit.intOf i).toNat)
      case atStart => exact ⟨0, Nat.zero_le _, rfl, K5.out⟩
      case round =>
        obtain ⟨r, hr, rfl, s⟩ := hrel
        have K6 := Lib.hid s; clear s
        have q0 : (0 : Int) ≤ r := by omega
        by_cases hlt2 : r < 4
        · have t1 : decide ((r : Int) < 4) = true := decide_eq_true (by omega)
          have q4 : (r : Int) < 4 := by omega
          have q60 : (t : Int) < 60 := by omega
          obtain ⟨k, hk⟩ : ∃ k : Nat, k = 4 * t + r := ⟨_, rfl⟩
          have HK := Lib.hid hk
          rw [← hk] at K6
          have hk240 : k < 240 := by omega
          have HTK : Hid ((toK F k 240).length = 240) := toK_len HFL.out (by omega)
          have LF : Hid (∀ wq, Gr wr wq → wq.cell? ⟨g5, t * 4 + r, none⟩ = some (.int .u8 (ub (gB F k)))) := fun wq hq => by
            have := By.at (K6.out.mono hq).f (i := t * 4 + r) (by rw [HFL.out]; omega)
            rwa [show t * 4 + r = k by omega] at this ⊢
          obtain ⟨a, ha⟩ : ∃ a, a = t / 4 := ⟨_, rfl⟩
          obtain ⟨b, hb⟩ : ∃ b, b = 4 * (t % 4) + r := ⟨_, rfl⟩
          obtain ⟨b4, hb4⟩ : ∃ b4, b4 = t % 4 := ⟨_, rfl⟩
          have e1 : (t : Int).tdiv 4 = (a : Int) := by rw [Int.tdiv_eq_ediv_of_nonneg (by omega)]; omega
          have e2 : (t : Int) % 4 = (b4 : Int) := by omega
          have e2' : (t : Int).tmod 4 = (b4 : Int) := by rw [Int.tmod_eq_emod_of_nonneg (by omega)]; omega
          have w1 : IntKind.i64.wrap (a : Int) = (a : Int) := IntWalk.i64_in _ (by omega)
          have w2 : IntKind.i64.wrap (b4 : Int) = (b4 : Int) := IntWalk.i64_in _ (by omega)
          have w3 : IntKind.i64.wrap (4 * (b4 : Int)) = 4 * (b4 : Int) := IntWalk.i64_in _ (by omega)
          have w4 : IntKind.i64.wrap (4 * (b4 : Int) + (r : Int)) = (b : Int) := by rw [IntWalk.i64_in _ (by omega)]; omega
          have pa : (0 : Int) ≤ a := by omega
          have pa2 : (a : Int) < 15 := by omega
          have pb : (0 : Int) ≤ b := by omega
          have pb2 : (b : Int) < 16 := by omega
          have HOF : Hid (a * 16 + b = k) := by show _ = _; omega
          clear ha hb hb4 hk
          go_upto_region 11 with fail
          refine wp_region_grow (by kernel_rfl) [0, 1, 0, 4, 12, 0, 60, 0, 0, 128, 896, 1920, 3, 8191, 16383] [.p 0, .p 1, .p 2, .p 3, .p 4, .p 5, .p 6, .p 7, .p 8, .p 9, .p 10, .p 12, .q 11, .p 13, .s 14] (by kernel_rfl) (trivial) ?_
          refine wpG_pe rfl rfl ?_
          apply Exists.intro
          refine ⟨fun wq => ?_, ?_⟩
          · unfold plainAt
            go_simp
            first | exact rfl | exact ⟨rfl, rfl⟩
          go_simp
          refine wpG_pe rfl rfl ?_
          apply Exists.intro
          refine ⟨fun wq => ?_, ?_⟩
          · unfold plainAt
            go_simp
            first | exact rfl | exact ⟨rfl, rfl⟩
          go_simp
          refine wpG_pe rfl rfl ?_
          apply Exists.intro
          refine ⟨fun wq => ?_, ?_⟩
          · unfold plainAt
            go_simp
            first | exact rfl | exact ⟨rfl, rfl⟩
          go_simp
          refine wpG_pe rfl rfl ?_
          apply Exists.intro
          refine ⟨fun wq => ?_, ?_⟩
          · unfold plainAt
            go_simp
            first | exact rfl | exact ⟨rfl, rfl⟩
          go_simp
          refine wpG_pe rfl rfl ?_
          apply Exists.intro
          refine ⟨fun wq => ?_, ?_⟩
          · unfold plainAt
            go_simp
            first | exact rfl | exact ⟨rfl, rfl⟩
          go_simp
          refine wpG_pe rfl rfl ?_
          apply Exists.intro
          refine ⟨fun wq => ?_, ?_⟩
          · unfold plainAt
            go_simp
            first | exact rfl | exact ⟨rfl, rfl⟩
          go_simp
          refine wpG_pe rfl rfl ?_
          apply Exists.intro
          refine ⟨fun wq => ?_, ?_⟩
          · unfold plainAt
            go_simp
            first | exact rfl | exact ⟨rfl, rfl⟩
          go_simp
          refine wpG_pe rfl rfl ?_
          apply Exists.intro
          refine ⟨fun wq => ?_, ?_⟩
          · unfold plainAt
            go_simp
            first | exact rfl | exact ⟨rfl, rfl⟩
          go_simp
          refine wpG_pe rfl rfl ?_
          apply Exists.intro
          refine ⟨fun wq => ?_, ?_⟩
          · unfold plainAt
            go_simp
            first | exact rfl | exact ⟨rfl, rfl⟩
          go_simp
          refine wpG_pe rfl rfl ?_
          apply Exists.intro
          refine ⟨fun wq => ?_, ?_⟩
          · unfold plainAt
            go_simp
            first | exact rfl | exact ⟨rfl, rfl⟩
          go_simp
          refine wpG_pe rfl rfl ?_
          apply Exists.intro
          refine ⟨fun wq => ?_, ?_⟩
          · unfold plainAt
            go_simp
            first | exact rfl | exact ⟨rfl, rfl⟩
          go_simp
          refine wpG_pe rfl rfl ?_
          apply Exists.intro
          refine ⟨fun wq => ?_, ?_⟩
          · unfold plainAt
            go_simp
            first | exact rfl | exact ⟨rfl, rfl⟩
          go_simp
          refine wpG_qe rfl rfl ?_
          apply Exists.intro
          refine ⟨fun wq hq => ?_, ?_⟩
          · have c0 := LF.out wq ((Gr.drew _).trans hq)
            unfold plainAt
            go_simp
            first | exact rfl | exact ⟨rfl, rfl⟩
          go_simp
          refine wpG_pe rfl rfl ?_
          apply Exists.intro
          refine ⟨fun wq => ?_, ?_⟩
          · unfold plainAt
            go_simp
            first | exact rfl | exact ⟨rfl, rfl⟩
          go_simp
          refine wpG_s rfl rfl ?_
          intro w7 g7 K hK
          have K7 := Lib.hid (K6.out.mono ((Gr.drew _).trans g7))
          have cc := K7.out.b.at (i := k) (by rw [HTK.out]; exact hk240)
          have ff := Blk.free K7.out.b k
          rw [← HOF.out] at cc ff
          go_simp
          refine hK _ _ ?_
          clear hK
          have K8 := Lib.hid (K7.out.put (Nat.le_of_eq HH.out.symm) HNE.out k (gB F k))
          rw [toK_set HFL.out hk240] at K8
          rw [HOF.out]
          obtain ⟨W8, hW8⟩ : ∃ W8, W8 = w7.setCell ⟨h + 1, k, none⟩ (.int .u8 (ub (gB F k))) := ⟨_, rfl⟩
          rw [← hW8] at K8 ⊢
          clear hW8 K7 g7 cc ff
          refine wpG_nil ?_
          intro w9 g9
          have K9 := Lib.hid (K8.out.mono g9)
          clear g9 K8
          go_wp2_with fail
          go_roundw
          case rel => exact ⟨r + 1, by omega, by go_num, by rw [show 4 * t + (r + 1) = k + 1 by rw [HK.out]; omega]; exact K9.out⟩
          case measure => simp [Go.RowKit.intOf]; omega
        · obtain rfl : r = 4 := by omega
          go_wp2_with fail
          go_roundw
          case rel => exact ⟨t + 1, by omega, by go_num, by rw [show 4 * (t + 1) = 4 * t + 4 by omega]; exact K6.out⟩
          case measure => simp [Go.RowKit.intOf]; omega
    · obtain rfl : t = 60 := by omega
      rw [show 4 * 60 = 240 from rfl, toK_all HFL.out] at K5
      go_wp2_with (first
        | (refine wpList_load_row rfl 152 (.tmp 4) rfl (h + 1) rfl 152 _ (0, 0) _ K5.out.b Tryz.underlying152 rfl (sizeR _ HFL.out) ?_)
        | (refine wpList_store_row rfl 152 (.tmp 2) (.tmp 36) rfl h (F.map u8c).toArray rfl rfl 152 _ K5.out.a (sizeR _ HFL.out) (by rw [arr_size, arr_size, HFL.out]; rfl) (arr_one _) ?_))
      exact bodyPost_ret (v := .tuple #[arr F, .int .i64 0]) (results_keysR Tryz.results175 _ _ h F HFL.out rfl K5.out.a.row) rfl ⟨rfl, byRow_below K5.out.gr (by rw [HH.out]; exact Nat.le_refl _) _⟩
/-! ### Encrypt -/
def RMid (w : World) (h : Nat) (K S : List UInt8) (W : World) : Prop := Gr w W ∧ By W h 152 K ∧ By W (h + 1) 151 S ∧ By W (h + 2) 151 (List.replicate 16 0)
theorem RMid.mono {w W W' : World} {h : Nat} {K S : List UInt8} (x : RMid w h K S W) (g : Gr W W') : RMid w h K S W' := ⟨x.1.trans g, g.blk x.2.1, g.blk x.2.2.1, g.blk x.2.2.2⟩
theorem RMid.put {w W : World} {h : Nat} {K S : List UInt8} (x : RMid w h K S W) (hw : w.heap.size ≤ h) (S' : List UInt8) : RMid w h K S' (W.setRow (h + 1) (S'.map u8c).toArray) :=
  ⟨byRow_below x.1 (by omega) _, (setRow_other W (h + 1) h _ (by omega)).trans x.2.1, x.2.2.1.row, (setRow_other W (h + 1) (h + 2) _ (by omega)).trans x.2.2.2⟩
set_option maxRecDepth 100000 in
set_option maxHeartbeats 1000000 in
theorem refEncrypt_any (KQ s : List UInt8) (hKL : KQ.length = 240) (hs : s.length = 16) (w : World) : Calls Tryz.prog 176 #[arr KQ, arr s] w fun e w' => e = .returned (arr (encL KQ s)) ∧ Gr w w' := by
  unfold arr
  obtain ⟨W0, hW0⟩ : ∃ W0, W0 = w.alloc (.cells (KQ.map u8c).toArray 152) := ⟨_, rfl⟩
  obtain ⟨W, hW⟩ : ∃ W, W = two16 W0 s := ⟨_, rfl⟩
  have hG0 : Gr w W0 := by rw [hW0]; exact Gr.alloc _ _
  have hsz : W0.heap.size = w.heap.size + 1 := by rw [hW0]; simp
  have hC : By W w.heap.size 152 KQ := by rw [hW]; refine (two16_gr W0 s).blk ?_; rw [hW0]; exact By.new w _ KQ
  have hG := two16_gr W0 s; have hA := two16_a W0 s; have hB := two16_b W0 s
  rw [← hW] at hG hA hB
  rw [hsz] at hA hB
  unfold two16 at hW
  rw [hW0] at hW
  have M0 : Hid (RMid w w.heap.size KQ s W) := ⟨hG0.trans hG, hC, hA, hB⟩
  have HW := Lib.hid hW; have HK := Lib.hid hKL; have HS := Lib.hid hs
  have HK0 := Lib.hid (keyAt_len (r := 0) hKL (by decide))
  have HR0 : Hid (W.rangeAt w.heap.size 0 ((keyAt KQ 0).map u8c)) := by have := By.range hC 0 16; exact this
  have HAD := Lib.hid (refAdd_any s (keyAt KQ 0) hs HK0.out W)
  clear hA hB hC hG hW hKL hs hG0 hsz hW0 W0
  go_enter Tryz.func176, Tryz.ntmps176
  go_upto_region 1 with fail
  rw [← HW.out]
  obtain ⟨h, hh⟩ : ∃ h, h = w.heap.size := ⟨_, rfl⟩
  rw [← hh] at M0 HR0 ⊢
  have HH := Lib.hid hh; clear hh
  go_upto_region 2 with (first
    | (refine wpList_load_row rfl 151 (.tmp 3) rfl (h + 1) rfl 151 _ (0, 0) _ M0.out.2.2.1 Tryz.underlying151 rfl (size16 _ HS.out) ?_)
    | (refine wpList_load_mid rfl 151 (.tmp 7) rfl h 0 rfl _ _ HR0.out Tryz.underlying151 rfl (size16c _ HK0.out) ?_)
    | (go_at_call 193; refine HAD.out.mono ?_; rintro e w1 ⟨rfl, g1⟩; have M1 := Lib.hid (M0.out.mono g1); clear g1; unfold arr)
    | (refine wpList_store_row rfl 151 (.tmp 3) (.tmp 9) rfl (h + 1) ((addL s (keyAt KQ 0)).map u8c).toArray rfl rfl 151 _ M1.out.2.2.1 (size16 _ (addL_len _ _)) (by rw [arr_size, arr_size, HS.out, addL_len]) (arr_one _) ?_))
  have M2 := Lib.hid (M1.out.put (Nat.le_of_eq HH.out.symm) (addL s (keyAt KQ 0)))
  obtain ⟨W2, hW2⟩ : ∃ W2, W2 = w1.setRow (h + 1) ((addL s (keyAt KQ 0)).map u8c).toArray := ⟨_, rfl⟩
  rw [← hW2] at M2 ⊢
  clear hW2 M1 M0 HR0 HAD
  go_wp2_with fail
  go_loopw [5] (fun i wr => ∃ j : Nat, j ≤ 14 ∧ i = .int .i64 ((j : Int) + 1) ∧ RMid w h KQ (encTo KQ s j) wr) (fun i _ => 15 - (Go.RowKit.intOf i).toNat)
  case atStart => exact ⟨0, Nat.zero_le _, rfl, M2.out⟩
  case round =>
    obtain ⟨j, hj, rfl, m⟩ := hrel
    have M3 := Lib.hid m; clear m
    have p0 : (0 : Int) ≤ (j : Int) + 1 := by omega
    obtain ⟨S, hS⟩ : ∃ S, S = encTo KQ s j := ⟨_, rfl⟩
    rw [← hS] at M3
    have HSL : Hid (S.length = 16) := by show _ = _; rw [hS]; exact encTo_len _ _ _
    have HSE := Lib.hid hS
    clear hS
    by_cases hlt : j < 14
    · have t0 : decide ((j : Int) + 1 < 15) = true := decide_eq_true (by omega)
      obtain ⟨j1, hj1⟩ : ∃ j1 : Nat, j1 = j + 1 := ⟨_, rfl⟩
      have ej : (j : Int) + 1 = (j1 : Int) := by omega
      have q1 : (j1 : Int) < 15 := by omega
      have q2 : (0 : Int) ≤ j1 := by omega
      have HKL := Lib.hid (keyAt_len (r := j1) HK.out (by omega))
      have HJ1 := Lib.hid hj1
      have HSU := Lib.hid (refSub_any S HSL.out wr)
      have HX1 : Hid ((subL S).length = 16) := by show _ = _; rw [subL_len, HSL.out]
      clear hj1
      go_upto_region 6 with (first
        | (refine wpList_load_row rfl 151 (.tmp 3) rfl (h + 1) rfl 151 _ (0, 0) _ M3.out.2.2.1 Tryz.underlying151 rfl (size16 _ HSL.out) ?_)
        | (go_at_call 195; refine HSU.out.mono ?_; rintro e w6 ⟨rfl, g6⟩; have G6 := Lib.hid g6; have HSH := Lib.hid (refShift_any (subL S) HX1.out w6); clear g6)
        | (go_at_call 194; refine HSH.out.mono ?_; rintro e w7 ⟨rfl, g7'⟩; have M7 := Lib.hid (M3.out.mono (G6.out.trans g7')); clear g7'; unfold arr)
        | (refine wpList_store_row rfl 151 (.tmp 3) (.tmp 16) rfl (h + 1) ((shiftL (subL S)).map u8c).toArray rfl rfl 151 _ M7.out.2.2.1 (size16 _ (shiftL_len _)) (by rw [arr_size, arr_size, HSL.out, shiftL_len]) (arr_one _) ?_))
      have M8 := Lib.hid (M7.out.put (Nat.le_of_eq HH.out.symm) (shiftL (subL S)))
      obtain ⟨W8, hW8⟩ : ∃ W8, W8 = w7.setRow (h + 1) ((shiftL (subL S)).map u8c).toArray := ⟨_, rfl⟩
      rw [← hW8] at M8 ⊢
      clear hW8 M7 HSU HSH G6 HX1
      obtain ⟨X, hX⟩ : ∃ X, X = (if j + 1 < 14 then amixL (shiftL (subL S)) else shiftL (subL S)) := ⟨_, rfl⟩
      have HXL : Hid (X.length = 16) := by
        show _ = _
        rw [hX]
        split
        · exact amixL_len (shiftL_len _)
        · exact shiftL_len _
      have HST : Hid (encTo KQ s (j + 1) = addL X (keyAt KQ j1)) := by show encStep KQ j (encTo KQ s j) = _; unfold encStep; rw [hX, HJ1.out, ← HSE.out]
      have HXX := Lib.hid hX; clear hX
      by_cases hm : j + 1 < 14
      · have t3 : decide ((j1 : Int) < 14) = true := decide_eq_true (by have := HJ1.out; omega)
        have HXE : Hid (X = amixL (shiftL (subL S))) := by show _ = _; rw [HXX.out, if_pos hm]
        have HMX := Lib.hid (refMix_any (shiftL (subL S)) (shiftL_len _) W8)
        rw [← HXE.out] at HMX
        go_upto_region 8 with (first
          | (refine wpList_load_row rfl 151 (.tmp 3) rfl (h + 1) rfl 151 _ (0, 0) _ M8.out.2.2.1 Tryz.underlying151 rfl (size16 _ (shiftL_len _)) ?_)
          | (go_at_call 196; refine HMX.out.mono ?_; rintro e w9 ⟨rfl, g9⟩; have M9' := Lib.hid (M8.out.mono g9); clear g9; unfold arr)
          | (refine wpList_store_row rfl 151 (.tmp 3) (.tmp 20) rfl (h + 1) (X.map u8c).toArray rfl rfl 151 _ M9'.out.2.2.1 (size16 _ HXL.out) (by rw [arr_size, arr_size, shiftL_len, HXL.out]) (arr_one _) ?_))
        have M9 := Lib.hid (M9'.out.put (Nat.le_of_eq HH.out.symm) X)
        obtain ⟨W10, hW10⟩ : ∃ W10, W10 = w9.setRow (h + 1) (X.map u8c).toArray := ⟨_, rfl⟩
        rw [← hW10] at M9 ⊢
        clear hW10 M9' HMX M8
        refine wp_region_grow (by kernel_rfl) [0, 0, 2, 6, 15, 31] [.p 1, .p 2, .q 0, .q 3, .c 4, .s 5] (by kernel_rfl) (trivial) ?_
        refine wpG_pe rfl rfl ?_
        apply Exists.intro
        refine ⟨fun wq => ?_, ?_⟩
        · unfold plainAt
          go_simp
          first | exact rfl | exact ⟨rfl, rfl⟩
        go_simp
        refine wpG_pe rfl rfl ?_
        apply Exists.intro
        refine ⟨fun wq => ?_, ?_⟩
        · unfold plainAt
          go_simp
          first | exact rfl | exact ⟨rfl, rfl⟩
        go_simp
        refine wpG_qe rfl rfl ⟨.agg (X.map u8c).toArray, fun wq hq => plainRow 151 (.tmp 3) rfl (h + 1) 0 rfl _ _ (By.whole (M9.out.mono ((Gr.drew _).trans hq)).2.2.1) Tryz.underlying151 rfl (size16c _ HXL.out), ?_⟩
        go_simp
        refine wpG_qe rfl rfl ⟨.agg ((keyAt KQ j1).map u8c).toArray, fun wq hq => plainRow 151 (.tmp 23) rfl h (j1 * 16) rfl _ _ (By.range (M9.out.mono ((Gr.drew _).trans hq)).2.1 (j1 * 16) 16) Tryz.underlying151 rfl (size16c _ HKL.out), ?_⟩
        go_simp
        refine wpG_c rfl rfl ?_
        intro w5 g5 K hK
        go_simp
        go_at_call 193
        refine (refAdd_any X (keyAt KQ j1) HXL.out HKL.out w5).mono ?_
        rintro e wn ⟨rfl, g6⟩
        refine hK _ _ g6 ?_; clear hK; have M10 := Lib.hid (M9.out.mono (((Gr.drew _).trans g5).trans g6)); clear g5 g6; unfold arr
        go_simp
        refine wpG_s rfl rfl ?_
        intro w11 g11 K' hK'
        have M11 := Lib.hid (M10.out.mono g11)
        refine wp_store_row 151 (.tmp 3) (.tmp 25) rfl (h + 1) ((addL X (keyAt KQ j1)).map u8c).toArray rfl rfl 151 _ M11.out.2.2.1 (size16 _ (addL_len _ _)) (by rw [arr_size, arr_size, HXL.out, addL_len]) (arr_one _) ?_
        refine hK' _ _ ?_
        clear hK'
        have M12 := Lib.hid (M11.out.put (Nat.le_of_eq HH.out.symm) (addL X (keyAt KQ j1)))
        obtain ⟨W12, hW12⟩ : ∃ W12, W12 = w11.setRow (h + 1) ((addL X (keyAt KQ j1)).map u8c).toArray := ⟨_, rfl⟩
        rw [← hW12] at M12 ⊢
        clear hW12 M11 M10 g11
        go_simp
        refine wpG_nil ?_
        intro w13 g13
        have M13 := Lib.hid (M12.out.mono g13)
        clear g13 M12
        go_wp2_with fail
        go_roundw
        case rel => exact ⟨j + 1, by omega, by first | go_num | (rw [← HJ1.out]), by rw [HST.out]; exact M13.out⟩
        case measure => have := HJ1.out; simp [Go.RowKit.intOf]; omega
      · have t3 : decide ((j1 : Int) < 14) = false := decide_eq_false (by have := HJ1.out; omega)
        have HXE : Hid (X = shiftL (subL S)) := by show _ = _; rw [HXX.out, if_neg hm]
        have M9 := M8
        rw [← HXE.out] at M9
        clear M8
        go_upto_region 8 with fail
        refine wp_region_grow (by kernel_rfl) [0, 0, 2, 6, 15, 31] [.p 1, .p 2, .q 0, .q 3, .c 4, .s 5] (by kernel_rfl) (trivial) ?_
        refine wpG_pe rfl rfl ?_
        apply Exists.intro
        refine ⟨fun wq => ?_, ?_⟩
        · unfold plainAt
          go_simp
          first | exact rfl | exact ⟨rfl, rfl⟩
        go_simp
        refine wpG_pe rfl rfl ?_
        apply Exists.intro
        refine ⟨fun wq => ?_, ?_⟩
        · unfold plainAt
          go_simp
          first | exact rfl | exact ⟨rfl, rfl⟩
        go_simp
        refine wpG_qe rfl rfl ⟨.agg (X.map u8c).toArray, fun wq hq => plainRow 151 (.tmp 3) rfl (h + 1) 0 rfl _ _ (By.whole (M9.out.mono ((Gr.drew _).trans hq)).2.2.1) Tryz.underlying151 rfl (size16c _ HXL.out), ?_⟩
        go_simp
        refine wpG_qe rfl rfl ⟨.agg ((keyAt KQ j1).map u8c).toArray, fun wq hq => plainRow 151 (.tmp 23) rfl h (j1 * 16) rfl _ _ (By.range (M9.out.mono ((Gr.drew _).trans hq)).2.1 (j1 * 16) 16) Tryz.underlying151 rfl (size16c _ HKL.out), ?_⟩
        go_simp
        refine wpG_c rfl rfl ?_
        intro w5 g5 K hK
        go_simp
        go_at_call 193
        refine (refAdd_any X (keyAt KQ j1) HXL.out HKL.out w5).mono ?_
        rintro e wn ⟨rfl, g6⟩
        refine hK _ _ g6 ?_; clear hK; have M10 := Lib.hid (M9.out.mono (((Gr.drew _).trans g5).trans g6)); clear g5 g6; unfold arr
        go_simp
        refine wpG_s rfl rfl ?_
        intro w11 g11 K' hK'
        have M11 := Lib.hid (M10.out.mono g11)
        refine wp_store_row 151 (.tmp 3) (.tmp 25) rfl (h + 1) ((addL X (keyAt KQ j1)).map u8c).toArray rfl rfl 151 _ M11.out.2.2.1 (size16 _ (addL_len _ _)) (by rw [arr_size, arr_size, HXL.out, addL_len]) (arr_one _) ?_
        refine hK' _ _ ?_
        clear hK'
        have M12 := Lib.hid (M11.out.put (Nat.le_of_eq HH.out.symm) (addL X (keyAt KQ j1)))
        obtain ⟨W12, hW12⟩ : ∃ W12, W12 = w11.setRow (h + 1) ((addL X (keyAt KQ j1)).map u8c).toArray := ⟨_, rfl⟩
        rw [← hW12] at M12 ⊢
        clear hW12 M11 M10 g11
        go_simp
        refine wpG_nil ?_
        intro w13 g13
        have M13 := Lib.hid (M12.out.mono g13)
        clear g13 M12
        go_wp2_with fail
        go_roundw
        case rel => exact ⟨j + 1, by omega, by first | go_num | (rw [← HJ1.out]), by rw [HST.out]; exact M13.out⟩
        case measure => have := HJ1.out; simp [Go.RowKit.intOf]; omega
    · obtain rfl : j = 14 := by omega
      have t0 : decide (((14 : Nat) : Int) + 1 < 15) = false := by decide
      have HRS : Hid (S = encL KQ s) := HSE.out
      go_wp2_with (first
        | (refine wpList_load_row rfl 151 (.tmp 3) rfl (h + 1) rfl 151 _ (0, 0) _ M3.out.2.2.1 Tryz.underlying151 rfl (size16 _ HSL.out) ?_)
        | (refine wpList_store_row rfl 151 (.tmp 4) (.tmp 26) rfl (h + 2) (S.map u8c).toArray rfl rfl 151 _ M3.out.2.2.2 (size16 _ HSL.out) (by rw [arr_size, arr_size, HSL.out]; rfl) (arr_one _) ?_))
      rw [← HRS.out]
      exact bodyPost_ret (v := arr S) (results_cell_row Tryz.results176 _ _ (h + 2) 151 _ (0, 0) _ rfl M3.out.2.2.2.row Tryz.underlying151 rfl (size16 _ HSL.out)) rfl ⟨rfl, byRow_below M3.out.1 (by rw [HH.out]; omega) _⟩
end Go.Proofs.YtcfbbgbjlgonpaaGreatDoor
