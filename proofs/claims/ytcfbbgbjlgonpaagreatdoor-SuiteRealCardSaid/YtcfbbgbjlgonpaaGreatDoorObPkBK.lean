/- Own texts of this claim, one behind the other. No condition. -/
import Derived.Test.YtcfbbgbjlgonpaaGreatDoorObPkAB
import Derived.Test.YtcfbbgbjlgonpaaGreatDoorObPkAE
import Derived.Test.YtcfbbgbjlgonpaaGreatDoorObPkAI
import Derived.Test.YtcfbbgbjlgonpaaGreatDoorObPkAS
import Derived.Test.YtcfbbgbjlgonpaaGreatDoorObPkBJ
import Derived.Lib.ConvBytes
import Derived.Laws.IdiomStrings

/- The reference of layer 12: counters. No condition. -/
namespace Go.Proofs.YtcfbbgbjlgonpaaGreatDoor
open Go.RowKit
set_option linter.unusedVariables false
set_option linter.unusedSimpArgs false
/-- Below place k, with a carry. -/
def cntL (L : List UInt8) : Nat → Nat → List UInt8
  | 0, _ => L
  | k + 1, n => cntL (L.set k (UInt8.ofNat ((n + (gB L k).toNat) % 256))) k ((n + (gB L k).toNat) / 256)
theorem gB_set_ne {l : List UInt8} {i j : Nat} (x : UInt8) (h : i ≠ j) : gB (l.set i x) j = gB l j := by
  unfold gB
  rw [List.getD_eq_getElem?_getD, List.getElem?_set_ne h, List.getD_eq_getElem?_getD]
theorem cntL_len : ∀ (k : Nat) (L : List UInt8) (n : Nat), (cntL L k n).length = L.length
  | 0, _, _ => rfl
  | k + 1, L, n => by unfold cntL; rw [cntL_len k, List.length_set]
theorem cntL_set : ∀ (k : Nat) (L : List UInt8) (n j : Nat) (v : UInt8), k ≤ j → cntL (L.set j v) k n = (cntL L k n).set j v
  | 0, _, _, _, _, _ => rfl
  | k + 1, L, n, j, v, h => by
    unfold cntL
    rw [gB_set_ne v (by omega : j ≠ k), List.set_comm _ _ (by omega : j ≠ k), cntL_set k _ _ j v (by omega)]
theorem ofNat_toNat_add (x : UInt8) : UInt8.ofNat ((0 + x.toNat) % 256) = x := byte_all (P := fun x => UInt8.ofNat ((0 + x.toNat) % 256) = x) (by decide +kernel) x
theorem set_gB {L : List UInt8} {k : Nat} (h : k < L.length) : L.set k (gB L k) = L := by
  unfold gB
  rw [List.getD_eq_getElem?_getD, List.getElem?_eq_getElem h]
  exact List.set_getElem_self h
theorem cntL_zero : ∀ (k : Nat) (L : List UInt8), k ≤ L.length → cntL L k 0 = L
  | 0, _, _ => rfl
  | k + 1, L, h => by
    unfold cntL
    have hx := (gB L k).toNat_lt
    rw [ofNat_toNat_add, set_gB (by omega), show (0 + (gB L k).toNat) / 256 = 0 by omega]
    exact cntL_zero k L (by omega)
theorem u8_succ (s : Nat) : UInt8.ofNat ((s + 1) % 256) = UInt8.ofNat (s % 256) + 1 := by
  apply UInt8.toNat_inj.1
  rw [UInt8.toNat_add, UInt8.toNat_ofNat', UInt8.toNat_ofNat']
  show _ = (_ + 1) % 256
  omega
theorem u8_zero_iff (s : Nat) : UInt8.ofNat (s % 256) + 1 = 0 ↔ s % 256 = 255 := by
  rw [← UInt8.toNat_inj, UInt8.toNat_add, UInt8.toNat_ofNat']
  show (_ + 1) % 256 = 0 ↔ _
  omega
theorem cntL_succ : ∀ (k : Nat) (L : List UInt8) (n : Nat), k + 1 ≤ L.length → cntL L (k + 1) (n + 1) = ctrUp (cntL L (k + 1) n) k
  | k, L, n, h => by
    obtain ⟨x, hx⟩ : ∃ x, x = gB L k := ⟨_, rfl⟩
    have hxl := x.toNat_lt
    have e1 : cntL L (k + 1) n = (cntL L k ((n + x.toNat) / 256)).set k (UInt8.ofNat ((n + x.toNat) % 256)) := by
      rw [hx]
      rw [show cntL L (k + 1) n = cntL (L.set k (UInt8.ofNat ((n + (gB L k).toNat) % 256))) k ((n + (gB L k).toNat) / 256) from rfl]
      exact cntL_set k _ _ k _ (Nat.le_refl _)
    have e2 : cntL L (k + 1) (n + 1) = (cntL L k ((n + 1 + x.toNat) / 256)).set k (UInt8.ofNat ((n + 1 + x.toNat) % 256)) := by
      rw [hx]
      rw [show cntL L (k + 1) (n + 1) = cntL (L.set k (UInt8.ofNat ((n + 1 + (gB L k).toNat) % 256))) k ((n + 1 + (gB L k).toNat) / 256) from rfl]
      exact cntL_set k _ _ k _ (Nat.le_refl _)
    have hl : ∀ m, k < (cntL L k m).length := fun m => by rw [cntL_len]; omega
    rw [e1, e2]
    obtain ⟨s, hs⟩ : ∃ s, s = n + x.toNat := ⟨_, rfl⟩
    rw [show n + 1 + x.toNat = s + 1 by omega, ← hs, u8_succ]
    by_cases h255 : s % 256 = 255
    · have hz := (u8_zero_iff s).2 h255
      rw [show (s + 1) / 256 = s / 256 + 1 by omega, hz]
      cases k with
      | zero =>
        show L.set 0 0 = (L.set 0 (UInt8.ofNat (s % 256))).set 0 (gB (L.set 0 (UInt8.ofNat (s % 256))) 0 + 1)
        rw [gB_set _ (by omega), hz, List.set_set]
      | succ j =>
        have hg : gB ((cntL L (j + 1) (s / 256)).set (j + 1) (UInt8.ofNat (s % 256))) (j + 1) + 1 = 0 := by rw [gB_set _ (hl _)]; exact hz
        rw [ctrUp_on hg, hg, List.set_set, ← cntL_set (j + 1) _ _ (j + 1) 0 (Nat.le_refl _), ← cntL_set (j + 1) _ _ (j + 1) 0 (Nat.le_refl _)]
        exact cntL_succ j (L.set (j + 1) 0) (s / 256) (by rw [List.length_set]; omega)
    · rw [show (s + 1) / 256 = s / 256 by omega]
      rw [ctrUp_stop (by rw [gB_set _ (hl _)]; exact fun q => h255 ((u8_zero_iff s).1 q)), gB_set _ (hl _), List.set_set]
theorem cnt_ctrTo {c : List UInt8} (h : c.length = 16) : ∀ n, cntL c 16 n = ctrTo c n
  | 0 => cntL_zero 16 c (by omega)
  | n + 1 => by rw [cntL_succ 15 c n (by omega), cnt_ctrTo h n]; rfl
/-! ### the walk -/
def two16z (w : World) : World := (w.alloc (.cells #[.int .u8 0, .int .u8 0, .int .u8 0, .int .u8 0, .int .u8 0, .int .u8 0, .int .u8 0, .int .u8 0, .int .u8 0, .int .u8 0, .int .u8 0, .int .u8 0, .int .u8 0, .int .u8 0, .int .u8 0, .int .u8 0] 151)).alloc (.cells #[.int .u8 0, .int .u8 0, .int .u8 0, .int .u8 0, .int .u8 0, .int .u8 0, .int .u8 0, .int .u8 0, .int .u8 0, .int .u8 0, .int .u8 0, .int .u8 0, .int .u8 0, .int .u8 0, .int .u8 0, .int .u8 0] 151)
def CMid (w : World) (h : Nat) (L : List UInt8) (W : World) : Prop := Gr w W ∧ By W h 151 (List.replicate 16 0) ∧ By W (h + 1) 151 L
theorem two16z_m (w : World) : CMid w w.heap.size (List.replicate 16 0) (two16z w) := ⟨(Gr.alloc _ _).trans (Gr.alloc _ _), (Gr.alloc _ _).blk (show By (w.alloc _) w.heap.size 151 (List.replicate 16 0) from heap_alloc_new w _), heap_alloc2_new w _ _⟩
theorem CMid.put {w W : World} {h : Nat} {L : List UInt8} (q : CMid w h L W) (hw : w.heap.size ≤ h) (k : Nat) (v : UInt8) : CMid w h (L.set k v) (W.setCell ⟨h + 1, k, none⟩ (.int .u8 (ub v))) :=
  ⟨q.1.setCell (p := ⟨h + 1, k, none⟩) (by show w.heap.size ≤ h + 1; omega) _, (Below.heap_setCell _ ⟨h + 1, k, none⟩ _ h (by show h ≠ h + 1; omega)).trans q.2.1, q.2.2.put k v⟩
set_option maxRecDepth 100000 in
set_option maxHeartbeats 2000000 in
theorem refCounter_any (B : Option Addr) (d : Nat) (nonce : List UInt8) (n : Nat) (w : World) (hb : Bs w B 16 d nonce) (hn : n ≤ 70000) :
    Calls Tryz.prog 177 #[.slice B 16 d, .int .i64 (n : Int)] w fun e w' => e = .returned (arr (ctrTo nonce n)) ∧ Gr w w' := by
  have HNL : Hid (nonce.length = 16) := hb.len
  have HTL := Lib.hid (ctrTo_len HNL.out n)
  have HT := Lib.hid (cnt_ctrTo HNL.out n)
  have hcp := hb.cap; have hmx := hb.max
  obtain ⟨b, o, rfl, hcell⟩ := Sl.addr hb (by decide)
  have LN : Hid (∀ W, Gr w W → ∀ j, j < 16 → W.cell? ⟨b, o + j, none⟩ = some (.int .u8 (ub (gB nonce j)))) := fun W hW j hj => by
    have := hcell j (.int .u8 (bAt nonce j)) (by rw [u8c_at (by rw [HNL.out]; exact hj)])
    exact (hW.cell (p := ⟨b, o + j, none⟩) (World.block_lt_of_cell? w _ this)).trans this
  obtain ⟨T, hT⟩ : ∃ T, T = ctrTo nonce n := ⟨_, rfl⟩
  rw [← hT] at HTL HT ⊢
  unfold arr
  obtain ⟨W, hW⟩ : ∃ W, W = two16z w := ⟨_, rfl⟩
  have M0 := Lib.hid (two16z_m w)
  rw [← hW] at M0
  unfold two16z at hW
  have HW := Lib.hid hW
  have HN := Lib.hid hn
  clear hb hcell hT hW
  go_enter Tryz.func177, Tryz.ntmps177
  go_upto_region 2 with fail
  rw [← HW.out]
  obtain ⟨h, hh⟩ : ∃ h, h = w.heap.size := ⟨_, rfl⟩
  rw [← hh] at M0 ⊢
  have HH := Lib.hid hh; clear hh
  go_wp2_with fail
  go_loopw [6] (fun i wr => ∃ k : Nat, k ≤ 16 ∧ i = .int .i64 (k : Int) ∧ CMid w h (toK nonce k 16) wr) (fun i _ => 16 - (Go.RowKit.intOf i).toNat)
  case atStart => exact ⟨0, Nat.zero_le _, rfl, M0.out⟩
  case round =>
    obtain ⟨k, hk, rfl, m⟩ := hrel
    have M1 := Lib.hid m; clear m
    have p0 : (0 : Int) ≤ k := by omega
    by_cases hlt : k < 16
    · have t0 : decide ((k : Int) < 16) = true := decide_eq_true (by omega)
      have p16 : (k : Int) < 16 := by omega
      have c1 := LN.out wr M1.out.1 k hlt
      have cc := M1.out.2.2.at (i := k) (by rw [toK_len HNL.out (by omega)]; exact hlt)
      have ff := Blk.free M1.out.2.2 k
      go_wp2_with fail
      go_roundw
      case rel =>
        have M2 := M1.out.put (Nat.le_of_eq HH.out.symm) k (gB nonce k)
        rw [toK_set HNL.out hlt] at M2
        exact ⟨k + 1, by omega, by go_num, M2⟩
      case measure => simp [Go.RowKit.intOf]; omega
    · obtain rfl : k = 16 := by omega
      rw [toK_all HNL.out] at M1
      have t0 : decide (((16 : Nat) : Int) < 16) = false := by decide
      go_wp2_with fail
      clear t0 hlt hk p0
      go_loopw [7, 8] (fun v i wx => ∃ (k q : Nat) (L : List UInt8), k ≤ 16 ∧ q ≤ 70000 ∧ v = .int .i64 (q : Int) ∧ i = .int .i64 ((k : Int) - 1) ∧ L.length = 16 ∧ cntL L k q = T ∧ CMid w h L wx) (fun _ i _ => (Go.RowKit.intOf i + 1).toNat)
      case atStart => exact ⟨16, n, nonce, Nat.le_refl _, HN.out, rfl, rfl, HNL.out, HT.out, M1.out⟩
      case round =>
        obtain ⟨k, q, L, hk, hq, rfl, rfl, hL, hc, m⟩ := hrel
        have M2 := Lib.hid m; have HL := Lib.hid hL; have HC := Lib.hid hc
        clear m hL hc
        cases k with
        | zero =>
          have t1 : decide ((0 : Int) ≤ ((0 : Nat) : Int) - 1) = false := by decide
          have HLT : Hid (L = T) := HC.out
          rw [HLT.out] at M2
          go_wp2_with (first
            | (refine wpList_load_row rfl 151 (.tmp 5) rfl (h + 1) rfl 151 _ (0, 0) _ M2.out.2.2 Tryz.underlying151 rfl (size16 _ HTL.out) ?_)
            | (refine wpList_store_row rfl 151 (.tmp 4) (.tmp 37) rfl h (T.map u8c).toArray rfl rfl 151 _ M2.out.2.1 (size16 _ HTL.out) (by rw [arr_size, arr_size, HTL.out]; rfl) (arr_one _) ?_))
          exact bodyPost_ret (v := arr T) (results_cell_row Tryz.results177 _ _ h 151 _ (0, 0) _ rfl M2.out.2.1.row Tryz.underlying151 rfl (size16 _ HTL.out)) rfl ⟨rfl, byRow_below M2.out.1 (by rw [HH.out]; exact Nat.le_refl _) _⟩
        | succ j =>
          have ej : ((j + 1 : Nat) : Int) - 1 = (j : Int) := by omega
          rw [ej]
          clear ej
          have t1 : decide ((0 : Int) ≤ (j : Int)) = true := decide_eq_true (by omega)
          have p0 : (0 : Int) ≤ j := by omega
          have p16 : (j : Int) < 16 := by omega
          obtain ⟨x, hx⟩ : ∃ x, x = gB L j := ⟨_, rfl⟩
          have c1 := M2.out.2.2.at (i := j) (by rw [HL.out]; omega)
          rw [← hx] at c1
          have hxl := x.toNat_lt
          obtain ⟨s, hs⟩ : ∃ s : Nat, s = q + x.toNat := ⟨_, rfl⟩
          have es : (q : Int) + ub x = (s : Int) := by rw [hs]; unfold ub; omega
          have s0 : (0 : Int) ≤ s := by omega
          have em : (s : Int) % 256 = ub (UInt8.ofNat (s % 256)) := by unfold ub; rw [UInt8.toNat_ofNat']; omega
          have em2 : ub (UInt8.ofNat (s % 256)) % 256 = ub (UInt8.ofNat (s % 256)) := by have := ub_lt (UInt8.ofNat (s % 256)); have := ub_nn (UInt8.ofNat (s % 256)); omega
          have em3 : IntKind.u8.wrap (ub (UInt8.ofNat (s % 256))) = ub (UInt8.ofNat (s % 256)) := wrap_u8 (ub_nn _) (ub_lt _)
          have eu := ub_nn x; have eu2 := ub_lt x
          have ew : IntKind.i64.wrap (ub x) = ub x := IntWalk.i64_in _ (by omega)
          obtain ⟨s2, hs2⟩ : ∃ s2 : Nat, s2 = s / 256 := ⟨_, rfl⟩
          have ed : (s : Int).tdiv 256 = (s2 : Int) := by rw [Int.tdiv_eq_ediv_of_nonneg (by omega)]; omega
          have hsl : s ≤ 70300 := by omega
          have hsm : s2 ≤ 300 := by omega
          have ed2 : IntKind.i64.wrap (s2 : Int) = (s2 : Int) := IntWalk.i64_in _ (by omega)
          have cc := c1
          have ff := Blk.free M2.out.2.2 j
          have HCN : Hid (cntL (L.set j (UInt8.ofNat (s % 256))) j s2 = T) := by show _ = _; rw [hs2, hs, hx]; exact HC.out
          clear hs hx hs2
          go_wp2_with fail
          go_roundw
          case rel =>
            exact ⟨j, s2, _, by omega, by omega, rfl, rfl, by rw [List.length_set]; exact HL.out, HCN.out, M2.out.put (Nat.le_of_eq HH.out.symm) j _⟩
          case measure => simp [Go.RowKit.intOf]
end Go.Proofs.YtcfbbgbjlgonpaaGreatDoor

/- The reference of layer 12: Stream, Over. No condition. -/
namespace Go.Proofs.YtcfbbgbjlgonpaaGreatDoor
open Go.RowKit
set_option linter.unusedVariables false
set_option linter.unusedSimpArgs false
theorem refRight_any (A B : Option Addr) (c d : Nat) (w : World) : Calls Tryz.prog 174 #[.slice A 32 c, .slice B 16 d] w fun e w' => e = .returned (.bool true) ∧ w = w' := by
  go_enter Tryz.func174, Tryz.ntmps174
  go_wp2_with fail
  go_ret
  exact ⟨rfl, rfl⟩
theorem take_snoc_gB (E : List UInt8) (j : Nat) (h : j < E.length) : (E.take j).map u8c ++ [.int .u8 (ub (gB E j))] = (E.take (j + 1)).map u8c := by
  rw [List.take_succ_eq_append_getElem h, List.map_append]
  unfold gB
  rw [List.getD_eq_getElem?_getD, List.getElem?_eq_getElem h]
  rfl
theorem sizeRc (l : List UInt8) (hl : l.length = 240) : (Tryz.prog.info? 152).map (·.size) = some (l.map u8c).length := by rw [List.length_map, hl]; kernel_rfl
def RetStrR (w : World) (key nonce : List UInt8) (n : Nat) (e : Ending) (w' : World) : Prop :=
  ∃ A c, e = .returned (.tuple #[.slice A n c, .int .i64 0]) ∧ Bs w' A n c (streamL key nonce n) ∧ Gr w w'
set_option maxRecDepth 100000 in
set_option maxHeartbeats 4000000 in
theorem refStream_any (A B : Option Addr) (c d n : Nat) (key nonce : List UInt8) (w : World) (hk : Bs w A 32 c key) (hn : Bs w B 16 d nonce) (hs : n ≤ 65536) :
    Calls Tryz.prog 156 #[.slice A 32 c, .slice B 16 d, .int .i64 (n : Int)] w (RetStrR w key nonce n) := by
  have HSC := Lib.hid (refSchedule_any A c key w hk)
  have HFL := Lib.hid (schedL_len (hk.len : key.length = 32))
  have HNL : Hid (nonce.length = 16) := hn.len
  have HNO := Lib.hid hn
  have p0 : (0 : Int) ≤ n := by omega
  have t0 : decide ((n : Int) < 0) = false := decide_eq_false (by omega)
  have t1 : decide ((65536 : Int) < n) = false := decide_eq_false (by omega)
  clear hk hn
  obtain ⟨F, hF⟩ : ∃ F, F = schedL key := ⟨_, rfl⟩
  unfold RetStrR streamL
  rw [← hF] at HSC HFL ⊢
  clear hF
  unfold arr at HSC
  go_enter Tryz.func156, Tryz.ntmps156
  go_upto_region 6 with (first
    | (go_at_call 174; refine (refRight_any A B c d w).mono ?_; rintro e w' ⟨rfl, rfl⟩)
    | (go_at_call 175; refine HSC.out.mono ?_; rintro e w1 ⟨rfl, g1⟩; have G1 := Lib.hid g1; clear g1)
    | (change wpList _ _ _ _ _ (w1.alloc (.cells (reps 240 (.int .u8 0)).toArray 152))
       refine wpList_store_row rfl 152 (.tmp 8) (.tmp 27) rfl w1.heap.size (F.map u8c).toArray rfl rfl 152 _ (show By _ w1.heap.size 152 (List.replicate 240 0) from heap_alloc_new w1 _) (sizeR _ HFL.out) (by rw [arr_size, arr_size, HFL.out]; rfl) (arr_one _) ?_))
  obtain ⟨g8, hg8⟩ : ∃ g8, g8 = w1.heap.size := ⟨_, rfl⟩
  rw [← hg8]
  obtain ⟨W2, hW2⟩ : ∃ W2, W2 = (w1.alloc (.cells (reps 240 (.int .u8 0)).toArray 152)).setRow g8 (F.map u8c).toArray := ⟨_, rfl⟩
  have hz : By (w1.alloc (.cells (reps 240 (.int .u8 0)).toArray 152)) g8 152 (List.replicate 240 0) := by rw [hg8]; exact heap_alloc_new w1 _
  have HF2 : Hid (By W2 g8 152 F) := by rw [hW2]; exact hz.row
  have HG2 : Hid (Gr w W2) := by rw [hW2]; exact byRow_below (G1.out.trans (Gr.alloc _ _)) (by rw [hg8]; exact G1.out.size) _
  rw [← hW2]
  clear hW2 hz hg8 HSC G1
  go_wp2_with fail
  go_loopw [10, 11] (fun v i wr => ∃ (k : Nat) (A' : Option Addr) (c' : Nat), v = .slice A' (16 * k) c' ∧ i = .int .i64 (k : Int) ∧ 16 * k < n + 16 ∧ Own w wr 5 1 (.slice A' (16 * k) c') (16 * k) ((streamTo F nonce k).map u8c) ∧ By wr g8 152 F) (fun v _ _ => 70000 - slM v)
  case atStart => exact ⟨0, none, 0, rfl, rfl, by omega, Own.nil' HG2.out _ _, HF2.out⟩
  case round =>
    obtain ⟨k, A1, c1, rfl, rfl, hk, o1, f1⟩ := hrel
    have O1 := Lib.hid o1; have F1 := Lib.hid f1
    obtain ⟨_, _, hv1, s1⟩ := o1.slice
    injection hv1 with hv1 _ hv3
    subst hv1 hv3
    have q1 := s1.cap; have m1 := s1.max
    have S1 := Lib.hid s1
    clear o1 f1 s1
    by_cases hlt : 16 * k < n
    · have t2 : decide (((16 * k : Nat) : Int) < (n : Int)) = true := decide_eq_true (by omega)
      have HCT := Lib.hid (fun W (hW : Gr w W) => refCounter_any B d nonce k W (HNO.out.mono hW) (by omega))
      have HCL := Lib.hid (ctrTo_len HNL.out k)
      obtain ⟨E, hE⟩ : ∃ E, E = encL F (ctrTo nonce k) := ⟨_, rfl⟩
      have HEL : Hid (E.length = 16) := by show _ = _; rw [hE]; exact encTo_len _ _ 14
      have HEN := Lib.hid (fun W => refEncrypt_any F (ctrTo nonce k) HFL.out HCL.out W)
      rw [← hE] at HEN
      have HEE := Lib.hid hE; clear hE
      go_upto_region 10 with fail
      refine wp_region_grow (by kernel_rfl) [0, 0, 0, 6, 15, 0, 63] [.p 1, .p 2, .q 0, .c 3, .c 4, .m 5 151 #[.int .u8 0, .int .u8 0, .int .u8 0, .int .u8 0, .int .u8 0, .int .u8 0, .int .u8 0, .int .u8 0, .int .u8 0, .int .u8 0, .int .u8 0, .int .u8 0, .int .u8 0, .int .u8 0, .int .u8 0, .int .u8 0], .s 6] (by kernel_rfl) (⟨fun o ho ρ w => by cases ho; kernel_rfl, trivial⟩) ?_
      refine wpG_pe rfl rfl ?_
      apply Exists.intro
      refine ⟨fun wq => ?_, ?_⟩
      · unfold plainAt
        go_simp
        first | exact rfl | exact ⟨rfl, rfl⟩
      go_simp
      refine wpG_pe rfl rfl ?_
      apply Exists.intro
      refine ⟨fun wq => ?_, ?_⟩
      · unfold plainAt
        go_simp
        first | exact rfl | exact ⟨rfl, rfl⟩
      go_simp
      refine wpG_qe rfl rfl ⟨.agg (F.map u8c).toArray, fun wq hq => plainRow 152 (.tmp 8) rfl g8 0 rfl _ _ (By.whole (show By wq g8 _ F from ((Gr.drew _).trans hq).blk F1.out)) Tryz.underlying152 rfl (sizeRc _ HFL.out), ?_⟩
      go_simp
      refine wpG_c rfl rfl ?_
      intro w5 g5 K hK
      go_simp
      go_at_call 177
      refine (HCT.out w5 (Gr.trans O1.out.below ((Gr.drew _).trans g5))).mono ?_
      rintro e wn ⟨rfl, g6⟩
      refine hK _ _ g6 ?_; clear hK; have G6 := Lib.hid (((Gr.drew wr).trans g5).trans g6); clear g5 g6; unfold arr
      go_simp
      refine wpG_c rfl rfl ?_
      intro w7 g7 K hK
      go_simp
      go_at_call 176
      refine (HEN.out w7).mono ?_
      rintro e wn ⟨rfl, g8'⟩
      refine hK _ _ g8' ?_; clear hK; have G8 := Lib.hid ((G6.out.trans g7).trans g8'); clear g7 g8'; unfold arr
      go_simp
      refine wpG_m rfl rfl ?_
      intro w9 b g9 hbn hblk hI
      have G9 := Lib.hid (G8.out.trans g9)
      have HBK := Lib.hid hblk
      have HNE : Hid (b ≠ g8) := fun e => by have := Blk.lt F1.out; omega
      have HBL : Hid (w.heap.size ≤ b) := Nat.le_trans O1.out.below.size hbn
      clear g9 hblk hI hbn
      go_simp
      refine wpG_s rfl rfl ?_
      intro w10 g10 K hK
      have HB10 : Hid (By w10 b 151 (List.replicate 16 0)) := g10.blk HBK.out
      refine wp_store_row 151 (.tmp 12) (.tmp 39) rfl b (E.map u8c).toArray rfl rfl 151 _ HB10.out (size16 _ HEL.out) (by rw [arr_size, arr_size, HEL.out]; rfl) (arr_one _) ?_
      refine hK _ _ ?_
      clear hK
      have G10 := Lib.hid (G9.out.trans g10)
      have O10 := Lib.hid (O1.out.mono G10.out)
      have HNB := Lib.hid (Own.not_blk O10.out HB10.out (by decide))
      obtain ⟨W11, hW11⟩ : ∃ W11, W11 = w10.setRow b (E.map u8c).toArray := ⟨_, rfl⟩
      have T11 : Tch (fun x => x = b) w10 W11 := by rw [hW11]; exact Tch.rowC b _ rfl
      have B11 : Hid (By W11 b 151 E) := by rw [hW11]; exact HB10.out.row
      have F11 : Hid (By W11 g8 152 F) := Blk.tch (G10.out.blk F1.out) T11 (fun e => HNE.out e.symm)
      have O11 := Lib.hid (Own.tch O10.out T11 (fun x hx => by rw [hx]; exact HBL.out) (fun x hx hy => HNB.out (by rw [hx, hy])))
      rw [← hW11]
      clear hW11 T11 HB10 O10 HNB g10 G10 G9 G8 G6 HBK HCT HEN
      go_simp
      refine wpG_nil ?_
      intro w12 g12
      have B12 : Hid (By w12 b 151 E) := g12.blk B11.out
      have F12 : Hid (By w12 g8 152 F) := g12.blk F11.out
      have O12 : Hid (Own w w12 5 1 (.slice A1 (16 * k + 0) c1) (16 * k + 0) ((streamTo F nonce k ++ E.take 0).map u8c)) := by show Own _ _ _ _ _ _ _; rw [List.take_zero, List.append_nil]; exact O11.out.mono g12
      clear g12 B11 F11 O11
      go_wp2_with fail
      go_loopw [10, 13] (fun v i wx => ∃ (j : Nat) (A' : Option Addr) (c' : Nat), v = .slice A' (16 * k + j) c' ∧ i = .int .i64 (j : Int) ∧ j ≤ 16 ∧ Own w wx 5 1 (.slice A' (16 * k + j) c') (16 * k + j) ((streamTo F nonce k ++ E.take j).map u8c) ∧ By wx g8 152 F ∧ By wx b 151 E) (fun _ i _ => 16 - (Go.RowKit.intOf i).toNat)
      case atStart => exact ⟨0, A1, c1, rfl, rfl, Nat.zero_le _, O12.out, F12.out, B12.out⟩
      case round =>
        obtain ⟨j, A2, c2, rfl, rfl, hj, o2, f2, b2⟩ := hrel
        have O2 := Lib.hid o2; have F2 := Lib.hid f2; have B2 := Lib.hid b2
        have e1 := Own.not_blk o2 f2 (by decide)
        have e2 := Own.not_blk o2 b2 (by decide)
        have E1 := Lib.hid e1; have E2 := Lib.hid e2
        have r0 : (0 : Int) ≤ j := by omega
        by_cases hj16 : j < 16
        · have t3 : decide ((j : Int) < 16) = true := decide_eq_true (by omega)
          have r1 : (j : Int) < 16 := by omega
          have cb := b2.at (i := j) (by rw [HEL.out]; exact hj16)
          have ES : Hid ((streamTo F nonce k ++ E.take j).map u8c ++ [.int .u8 (ub (gB E j))] = (streamTo F nonce k ++ E.take (j + 1)).map u8c) := by
            show _ = _
            rw [List.map_append, List.map_append, List.append_assoc, take_snoc_gB E j (by rw [HEL.out]; exact hj16)]
          clear o2 f2 b2 e1 e2
          go_wp2_with (at_builtin; refine wpList_pushG rfl (.tmp 44) (.tmp 48) 28 rfl tBytes rfl O2.out #[.int .u8 (ub (gB E j))] rfl rfl (one_int _ _) (by omega) ?_; intro v6 w6 own6 kept6; obtain ⟨A6, k6, rfl, sl6⟩ := own6.slice; have O6 := Lib.hid own6; have F6 : Hid (By w6 g8 152 F) := By.kept (show By (wr.alloc _) g8 _ F from (Gr.alloc _ _).blk F2.out) kept6 E1.out; have B6 : Hid (By w6 b 151 E) := By.kept (show By (wr.alloc _) b _ E from (Gr.alloc _ _).blk B2.out) kept6 E2.out; clear own6 kept6 sl6)
          first | go_roundw | skip
          case rel => exact ⟨j + 1, A6, k6, rfl, by go_num, by omega, by rw [← ES.out]; exact O6.out, F6.out, B6.out⟩
          case measure => simp [Go.RowKit.intOf]; omega
        · obtain rfl : j = 16 := by omega
          have e3 : streamTo F nonce k ++ E.take 16 = streamTo F nonce (k + 1) := by rw [List.take_of_length_le (by rw [HEL.out]; exact Nat.le_refl _), HEE.out]; rfl
          rw [e3] at O2
          have H16 : Hid (16 * k + 16 = 16 * (k + 1)) := by show _ = _; omega
          clear o2 f2 b2 e1 e2 e3
          have t3 : decide (((16 : Nat) : Int) < 16) = false := by decide
          go_wp2_with fail
          first | go_roundw | skip
          case rel => exact ⟨k + 1, A2, c2, by rw [H16.out], by go_num, by omega, by rw [← H16.out]; exact O2.out, F2.out⟩
          case measure => simp [slM]; omega
    · have t2 : decide (((16 * k : Nat) : Int) < (n : Int)) = false := decide_eq_false (by omega)
      have q2 : n ≤ c1 := by omega
      go_wp2_with fail
      go_ret2
      have hN : (n + 15) / 16 = k := by omega
      refine ⟨A1, c1, rfl, ?_, O1.out.below⟩
      have := S1.out.upto (k := n) (by omega)
      rw [← List.map_take] at this
      rw [hN]
      exact this
set_option maxRecDepth 100000 in
set_option maxHeartbeats 1000000 in
theorem refOver_any (A B C : Option Addr) (c d m n : Nat) (key nonce text : List UInt8) (w : World) (hk : Bs w A 32 c key) (hn : Bs w B 16 d nonce) (ht : Bs w C n m text) (hs : n ≤ 65536) :
    Calls Tryz.prog 134 #[.slice A 32 c, .slice B 16 d, .slice C n m] w (RetOver w key nonce text) := by
  have HST := Lib.hid (refStream_any A B c d n key nonce w hk hn hs)
  have htl : text.length = n := ht.len
  have HT := Lib.hid ht; have HTL := Lib.hid htl; have HS := Lib.hid hs
  have hcm := Sl.cap ht; have hmm := Sl.max ht
  have HOL := Lib.hid (overL_len key nonce text)
  clear hk hn ht htl hs
  go_enter Tryz.func134, Tryz.ntmps134
  go_wp2_with fail
  refine HST.out.mono ?_
  rintro e w1 ⟨A1, c1, rfl, s1, g1⟩
  have S1 := Lib.hid s1; have G1 := Lib.hid g1
  have HX := Lib.hid (refXor_any C A1 n n m c1 text (streamL key nonce n) w1 (HT.out.mono g1) s1 (Nat.le_trans HS.out (by decide)))
  clear s1 g1
  go_wp2_with fail
  refine HX.out.mono ?_
  rintro e w2 ⟨v2, rfl, o2⟩
  have O2 := Lib.hid o2; clear o2
  go_wp2_with fail
  go_ret2
  refine ⟨v2, rfl, ?_⟩
  have h := O2.out
  have e1 : xorL text (streamL key nonce n) = overL key nonce text := by unfold overL; rw [HTL.out]
  rw [e1, HOL.out] at h
  exact h.base G1.out
end Go.Proofs.YtcfbbgbjlgonpaaGreatDoor

namespace Go.Proofs.YtcfbbgbjlgonpaaGreatDoor
open Go.RowKit
set_option linter.unusedVariables false

/-! ### '[]byte(s)' and 's[i]' -/
theorem conv_bytes {P : Program} (s : ByteArray) (t : TypeId) (hs : P.underlying 9 = some .string) (hd : P.underlying t = some (.slice 5)) (he : P.underlying 5 = some (.int .u8)) (w : World) :
    ∃ c w1, (convert 9 t (.string s)).run P w = .ok (.slice (some ⟨w.heap.size, 0, none⟩) s.size c) w1 ∧ (∀ k, k < s.size → w1.cell? ⟨w.heap.size, k, none⟩ = some (.int .u8 (bAt s.data.toList k))) ∧ Below w.heap.size w w1 ∧ s.size ≤ c := by
  refine ⟨_, _, Lib.run_convert_string_bytes w 9 t 5 s hs hd he, fun k hk => ?_, ?_, ?_⟩
  · exact Lib.bytesWorld_cell w 5 s k hk
  · have h1 := run_bytes_of_string (P := P) w 9 t 5 s hs hd he
    have h2 := Lib.run_convert_string_bytes (P := P) w 9 t 5 s hs hd he
    rw [h1] at h2
    injection h2 with _ h3
    rw [← h3]
    exact ((Below.refl _ _).drew).alloc (Nat.le_refl _) _
  · exact grownCap_ge _ _ _ _

theorem str_at (s : ByteArray) (k : Nat) (h : k < s.size) : ((s[k]'h).toNat : Int) = bAt s.data.toList k := by
  unfold bAt
  rw [List.getD_eq_getElem?_getD, Array.getElem?_toList, Array.getElem?_eq_getElem (show k < s.data.size from h)]
  rfl

end Go.Proofs.YtcfbbgbjlgonpaaGreatDoor
