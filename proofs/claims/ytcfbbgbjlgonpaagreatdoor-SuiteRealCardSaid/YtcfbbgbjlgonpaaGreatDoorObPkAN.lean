/- Own texts of this claim, one behind the other. No condition. -/
import Derived.Test.YtcfbbgbjlgonpaaGreatDoorObPkAM
import Derived.Outline
import Derived.Deep.Cut

/- The field of 256 numbers: Column; arrays of bytes in memory. No condition. -/
namespace Go.Proofs.YtcfbbgbjlgonpaaGreatDoor
open Go.RowKit
set_option linter.unusedVariables false
set_option linter.unusedSimpArgs false
/-- A byte of a row. -/
def gB (l : List UInt8) (i : Nat) : UInt8 := l.getD i 0
/-- An array of bytes at block g. -/
abbrev By (w : World) (g : Nat) (t : TypeId) (l : List UInt8) : Prop := Blk w g t (l.map u8c)
theorem By.at {w : World} {g : Nat} {t : TypeId} {l : List UInt8} (h : By w g t l) {i : Nat} (hi : i < l.length) : w.cell? ⟨g, i, none⟩ = some (.int .u8 (ub (gB l i))) := by
  unfold gB
  rw [Blk.cell h, List.getElem?_map, List.getElem?_eq_getElem hi, List.getD_eq_getElem?_getD, List.getElem?_eq_getElem hi]
  rfl
theorem By.put {w : World} {g : Nat} {t : TypeId} {l : List UInt8} (h : By w g t l) (i : Nat) (x : UInt8) : By (w.setCell ⟨g, i, none⟩ (.int .u8 (ub x))) g t (l.set i x) := by
  have := Blk.set h i (.int .u8 (ub x))
  unfold By
  rw [List.map_set]
  exact this
def arr (l : List UInt8) : Value := .agg (l.map u8c).toArray
theorem arr_size (l : List UInt8) : (l.map u8c).toArray.size = l.length := by simp
theorem arr_one (l : List UInt8) : (l.map u8c).toArray.all (·.oneCell') = true := by
  rw [List.all_toArray, List.all_eq_true]
  intro x hx
  obtain ⟨y, _, rfl⟩ := List.mem_map.1 hx
  rfl
theorem By.new (w : World) (t : TypeId) (l : List UInt8) : By (w.alloc (.cells (l.map u8c).toArray t)) w.heap.size t l := by
  have := Blk.new w t (l.map u8c).toArray
  unfold By
  rwa [List.toList_toArray] at this
theorem By.row {w : World} {g : Nat} {t : TypeId} {l m : List UInt8} (h : By w g t l) : By (w.setRow g (m.map u8c).toArray) g t m := by
  exact setRow_heap w g _ _ _ _ h
theorem size4 (l : List UInt8) (hl : l.length = 4) : (Tryz.prog.info? 190).map (·.size) = some (l.map u8c).toArray.size := by rw [arr_size, hl]; kernel_rfl
def colAll (l : List UInt8) : UInt8 := gB l 0 ^^^ gB l 1 ^^^ gB l 2 ^^^ gB l 3
def colB (l : List UInt8) (i : Nat) : UInt8 := (gB l (i % 4) ^^^ colAll l) ^^^ twB (gB l (i % 4) ^^^ gB l ((i + 1) % 4))
def colL (l : List UInt8) : List UInt8 := (List.range 4).map (colB l)
theorem colL_len (l : List UInt8) : (colL l).length = 4 := by simp [colL]
/-- The first k of R, the rest 0. -/
def toK (R : List UInt8) (k n : Nat) : List UInt8 := R.take k ++ List.replicate (n - k) 0
theorem toK_len {R : List UInt8} {k n : Nat} (hR : R.length = n) (hk : k ≤ n) : (toK R k n).length = n := by simp [toK, hR]; omega
theorem toK_set {R : List UInt8} {k n : Nat} (hR : R.length = n) (hk : k < n) : (toK R k n).set k (gB R k) = toK R (k + 1) n := by
  unfold toK gB
  have hl : (R.take k).length = k := by simp; omega
  rw [List.set_append, if_neg (by omega), hl, Nat.sub_self, List.take_add_one, List.append_assoc]
  obtain ⟨m, hm⟩ : ∃ m, n - k = m + 1 := ⟨n - k - 1, by omega⟩
  rw [hm, List.replicate_succ, List.set_cons_zero, show n - (k + 1) = m by omega, List.getElem?_eq_getElem (by omega), List.getD_eq_getElem?_getD, List.getElem?_eq_getElem (by omega)]
  rfl
theorem toK_all {R : List UInt8} {n : Nat} (hR : R.length = n) : toK R n n = R := by simp [toK, ← hR]
theorem toK_zero (R : List UInt8) (n : Nat) : toK R 0 n = List.replicate n 0 := by simp [toK]
theorem colAt_any (g : Nat) (l : List UInt8) (i : Nat) (hi : i < 8) (hl : l.length = 4) (w : World) (h : By w g 190 l) :
    Calls Tryz.prog 212 #[.int .i64 (i : Int), .pointer (some ⟨g, 0, none⟩)] w fun e w' => e = .returned (.int .u8 (ub (gB l (i % 4)))) ∧ w = w' := by
  have hc := h.at (i := i % 4) (by omega)
  have p0 : (0 : Int) ≤ i := by omega
  have hr : i % 4 < 4 := by omega
  clear h
  go_enter Tryz.func212, Tryz.ntmps212
  go_wp2_with fail
  go_ret
  exact ⟨rfl, rfl⟩
def RetCol (w : World) (t : TypeId) (l : List UInt8) (e : Ending) (w' : World) : Prop := e = .returned (arr l) ∧ Gr w w'
theorem byRow_below {B : Nat} {w0 w : World} {g : Nat} (h : Below B w0 w) (hg : B ≤ g) (cs : Array Value) : Below B w0 (w.setRow g cs) :=
  ⟨h.os, h.tape, h.output, by simpa [World.setRow] using h.size, fun k hk => by
    have hne : g ≠ k := by omega
    rw [← h.block k hk]
    simp [World.setRow, Array.getElem?_modify, hne]⟩
theorem byte_store (x : UInt8) : (Value.int .u8 (ub x)).oneCell' = true := rfl
set_option maxRecDepth 100000 in
set_option maxHeartbeats 1000000 in
theorem gfColumn_any (l : List UInt8) (hl : l.length = 4) (w : World) : Calls Tryz.prog 200 #[arr l] w fun e w' => e = .returned (arr (colL l)) ∧ Gr w w' := by
  unfold arr
  obtain ⟨W, hW⟩ : ∃ W, W = (w.alloc (.cells (l.map u8c).toArray 190)).alloc (.cells #[.int .u8 0, .int .u8 0, .int .u8 0, .int .u8 0] 190) := ⟨_, rfl⟩
  have hG : Gr w W := by rw [hW]; exact (Gr.alloc _ _).trans (Gr.alloc _ _)
  have hA : By W w.heap.size 190 l := by rw [hW]; exact (Gr.alloc _ _).blk (By.new w _ l)
  have hB : By W (w.heap.size + 1) 190 (toK (colL l) 0 4) := by
    rw [hW]
    exact heap_alloc2_new w _ _
  have c0 := hA.at (i := 0) (by omega); have c1 := hA.at (i := 1) (by omega); have c2 := hA.at (i := 2) (by omega); have c3 := hA.at (i := 3) (by omega)
  have x1 := ub_xor (gB l 0) (gB l 1); have x2 := ub_xor (gB l 0 ^^^ gB l 1) (gB l 2); have x3 := ub_xor (gB l 0 ^^^ gB l 1 ^^^ gB l 2) (gB l 3)
  have HA := Lib.hid hA; have HB := Lib.hid hB; have HG := Lib.hid hG; have HW := Lib.hid hW; have HL := Lib.hid hl
  clear hA hB hG hW hl
  go_enter Tryz.func200, Tryz.ntmps200
  go_upto_region 2 with fail
  rw [← HW.out]
  go_wp2_with fail
  rw [show gB l 0 ^^^ gB l 1 ^^^ gB l 2 ^^^ gB l 3 = colAll l from rfl]
  clear c0 c1 c2 c3 x1 x2 x3
  obtain ⟨h, hh⟩ : ∃ h, h = w.heap.size := ⟨_, rfl⟩
  rw [← hh] at HA HB ⊢
  have HH := Lib.hid hh; clear hh
  go_loopw [18] (fun i wr => ∃ k : Nat, k ≤ 4 ∧ i = .int .i64 (k : Int) ∧ Gr w wr ∧ By wr h 190 l ∧ By wr (h + 1) 190 (toK (colL l) k 4)) (fun i _ => 4 - (Go.RowKit.intOf i).toNat)
  case atStart => exact ⟨0, Nat.zero_le _, rfl, HG.out, HA.out, HB.out⟩
  case round =>
    obtain ⟨k, hk, rfl, g, ha, hb⟩ := hrel
    have GR := Lib.hid g; have HA1 := Lib.hid ha; have HB1 := Lib.hid hb
    have p0 : (0 : Int) ≤ k := by omega
    have hbl : (toK (colL l) k 4).length = 4 := toK_len (colL_len l) hk
    by_cases hlt : k < 4
    · have t0 : decide ((k : Int) < 4) = true := decide_eq_true (by omega)
      have HC0 : Hid (Calls Tryz.prog 212 #[.int .i64 (k : Int), .pointer (some ⟨h, 0, none⟩)] wr fun e w' => e = .returned (.int .u8 (ub (gB l (k % 4)))) ∧ wr = w') := colAt_any h l k (by omega) HL.out wr ha
      have HC1 : Hid (Calls Tryz.prog 212 #[.int .i64 ((k : Int) + 1), .pointer (some ⟨h, 0, none⟩)] wr fun e w' => e = .returned (.int .u8 (ub (gB l ((k + 1) % 4)))) ∧ wr = w') := by
        have := colAt_any h l (k + 1) (by omega) HL.out wr ha
        rwa [Int.natCast_succ] at this
      obtain ⟨x, hx⟩ : ∃ x, x = gB l (k % 4) := ⟨_, rfl⟩
      obtain ⟨y, hy⟩ : ∃ y, y = gB l ((k + 1) % 4) := ⟨_, rfl⟩
      rw [← hx] at HC0
      rw [← hy] at HC1
      have x1 := ub_xor x (colAll l); have x2 := ub_xor x y; have x3 := ub_xor (x ^^^ colAll l) (twB (x ^^^ y))
      have HV : Hid (gB (colL l) k = (x ^^^ colAll l) ^^^ twB (x ^^^ y)) := by
        show gB (colL l) k = _
        rw [hx, hy]
        unfold gB colL
        rw [List.getD_eq_getElem?_getD, List.getElem?_map, List.getElem?_range hlt]
        rfl
      have cc := hb.at (i := k) (by omega)
      have ff := Blk.free hb k
      clear g ha hb hx hy hbl
      go_wp2_with (first
        | (go_at_call 212; first | (refine HC0.out.mono ?_; rintro e w' ⟨rfl, rfl⟩) | (refine HC1.out.mono ?_; rintro e w' ⟨rfl, rfl⟩))
        | (go_at_call 213; refine (twice_any _ _).mono ?_; rintro e w' ⟨rfl, rfl⟩))
      go_roundw
      case rel =>
        refine ⟨k + 1, by omega, by go_num, GR.out.setCell (p := ⟨h + 1, k, none⟩) (by rw [HH.out]; exact Nat.le_succ _) _, ?_, ?_⟩
        · exact (Below.heap_setCell _ ⟨h + 1, k, none⟩ _ h (by show h ≠ h + 1; omega)).trans HA1.out
        · rw [← toK_set (colL_len l) hlt, HV.out]
          exact HB1.out.put k _
      case measure => simp [Go.RowKit.intOf]; omega
    · obtain rfl : k = 4 := by omega
      rw [toK_all (colL_len l)] at hb
      have HB2 := Lib.hid hb
      clear g ha hb hbl HB1
      go_wp2_with (first
        | (refine wpList_load_row rfl 190 (.tmp 2) rfl (h + 1) rfl 190 _ (0, 0) _ HB2.out Tryz.underlying190 rfl (size4 _ (colL_len l)) ?_)
        | (refine wpList_store_row rfl 190 (.tmp 2) (.tmp 39) rfl (h + 1) ((colL l).map u8c).toArray rfl rfl 190 _ HB2.out (size4 _ (colL_len l)) rfl (arr_one _) ?_))
      exact bodyPost_ret (v := arr (colL l)) (results_cell_row Tryz.results200 _ _ (h + 1) 190 _ (0, 0) _ rfl HB2.out.row Tryz.underlying190 rfl (size4 _ (colL_len l))) rfl ⟨rfl, byRow_below GR.out (by rw [HH.out]; exact Nat.le_succ _) _⟩
end Go.Proofs.YtcfbbgbjlgonpaaGreatDoor

/- AES: Sub, Shift, Add. No condition. -/
namespace Go.Proofs.YtcfbbgbjlgonpaaGreatDoor
open Go.RowKit
set_option linter.unusedVariables false
set_option linter.unusedSimpArgs false
theorem size16 (l : List UInt8) (hl : l.length = 16) : (Tryz.prog.info? 151).map (·.size) = some (l.map u8c).toArray.size := by rw [arr_size, hl]; kernel_rfl
theorem run_idx4 (l : List UInt8) (t : Nat) (hl : l.length = 4) (ht : t < 4) (w : World) : (Instr.index 190 (.agg (l.map u8c).toArray) (.int .i64 (t : Int))).run Tryz.prog w = .ok (.int .u8 (ub (gB l t))) w := by
  have hs : (sizeOf 5).run Tryz.prog w = .ok 1 w := by kernel_rfl
  have ha : (l.map u8c).toArray[t]? = some (.int .u8 (ub (gB l t))) := by
    unfold gB
    simp only [List.getElem?_toArray, List.getElem?_map]
    rw [List.getElem?_eq_getElem (by omega), List.getD_eq_getElem?_getD, List.getElem?_eq_getElem (by omega)]
    rfl
  have hp : (part 5 (l.map u8c).toArray t).run Tryz.prog w = .ok (.int .u8 (ub (gB l t))) w := by
    have hag : (isAgg 5).run Tryz.prog w = .ok false w := by kernel_rfl
    simp only [part, Sem.run_bind, hag, Result.andThen_ok]
    rw [ha]
    rfl
  simp only [Instr.index, asIntOf, Sem.run_bind, Sem.run_pure, Result.andThen_ok, run_underlying Tryz.underlying190]
  rw [if_pos ⟨by omega, by exact_mod_cast ht⟩]
  simp only [Sem.run_bind, hs, Result.andThen_ok, Int.toNat_natCast, Nat.mul_one]
  exact hp
theorem run_idx16 (l : List UInt8) (t : Nat) (hl : l.length = 16) (ht : t < 16) (w : World) : (Instr.index 151 (.agg (l.map u8c).toArray) (.int .i64 (t : Int))).run Tryz.prog w = .ok (.int .u8 (ub (gB l t))) w := by
  have hs : (sizeOf 5).run Tryz.prog w = .ok 1 w := by kernel_rfl
  have ha : (l.map u8c).toArray[t]? = some (.int .u8 (ub (gB l t))) := by
    unfold gB
    simp only [List.getElem?_toArray, List.getElem?_map]
    rw [List.getElem?_eq_getElem (by omega), List.getD_eq_getElem?_getD, List.getElem?_eq_getElem (by omega)]
    rfl
  have hp : (part 5 (l.map u8c).toArray t).run Tryz.prog w = .ok (.int .u8 (ub (gB l t))) w := by
    have hag : (isAgg 5).run Tryz.prog w = .ok false w := by kernel_rfl
    simp only [part, Sem.run_bind, hag, Result.andThen_ok]
    rw [ha]
    rfl
  simp only [Instr.index, asIntOf, Sem.run_bind, Sem.run_pure, Result.andThen_ok, run_underlying Tryz.underlying151]
  rw [if_pos ⟨by omega, by exact_mod_cast ht⟩]
  simp only [Sem.run_bind, hs, Result.andThen_ok, Int.toNat_natCast, Nat.mul_one]
  exact hp
/-- The first k of T, the rest of R. -/
def mixB (R T : List UInt8) (k : Nat) : List UInt8 := T.take k ++ R.drop k
theorem mixB_len {R T : List UInt8} {k n : Nat} (hR : R.length = n) (hT : T.length = n) (hk : k ≤ n) : (mixB R T k).length = n := by simp [mixB, hR, hT]; omega
theorem mixB_set {R T : List UInt8} {k n : Nat} (hR : R.length = n) (hT : T.length = n) (hk : k < n) : (mixB R T k).set k (gB T k) = mixB R T (k + 1) := by
  unfold mixB gB
  have hl : (T.take k).length = k := by simp; omega
  rw [List.set_append, if_neg (by omega), hl, Nat.sub_self, List.take_add_one, List.append_assoc]
  rw [List.drop_eq_getElem_cons (by omega : k < R.length), List.set_cons_zero, List.getElem?_eq_getElem (by omega), List.getD_eq_getElem?_getD, List.getElem?_eq_getElem (by omega)]
  rfl
theorem mixB_at {R T : List UInt8} {k n : Nat} (hR : R.length = n) (hT : T.length = n) (hk : k < n) : gB (mixB R T k) k = gB R k := by
  unfold mixB gB
  have hl : (T.take k).length = k := by simp; omega
  rw [List.getD_eq_getElem?_getD, List.getElem?_append_right (by omega), hl, Nat.sub_self, List.getElem?_drop, Nat.add_zero, List.getD_eq_getElem?_getD]
theorem mixB_all {R T : List UInt8} {n : Nat} (hR : R.length = n) (hT : T.length = n) : mixB R T n = T := by simp [mixB, ← hT, ← hR]; omega
theorem mixB_zero (R T : List UInt8) : mixB R T 0 = R := by simp [mixB]
theorem gB_map (f : UInt8 → UInt8) (l : List UInt8) (k : Nat) (hk : k < l.length) : gB (l.map f) k = f (gB l k) := by
  unfold gB
  rw [List.getD_eq_getElem?_getD, List.getElem?_map, List.getElem?_eq_getElem hk, List.getD_eq_getElem?_getD, List.getElem?_eq_getElem hk]
  rfl
theorem gB_range (f : Nat → UInt8) (n k : Nat) (hk : k < n) : gB ((List.range n).map f) k = f k := by
  unfold gB
  rw [List.getD_eq_getElem?_getD, List.getElem?_map, List.getElem?_range hk]
  rfl
def zero16 : List Value := List.replicate 16 (.int .u8 0)
/-- The blocks that a function of arrays begins with: its argument, and its result. -/
def two16 (w : World) (l : List UInt8) : World := (w.alloc (.cells (l.map u8c).toArray 151)).alloc (.cells #[.int .u8 0, .int .u8 0, .int .u8 0, .int .u8 0, .int .u8 0, .int .u8 0, .int .u8 0, .int .u8 0, .int .u8 0, .int .u8 0, .int .u8 0, .int .u8 0, .int .u8 0, .int .u8 0, .int .u8 0, .int .u8 0] 151)
theorem two16_gr (w : World) (l : List UInt8) : Gr w (two16 w l) := (Gr.alloc _ _).trans (Gr.alloc _ _)
theorem two16_a (w : World) (l : List UInt8) : By (two16 w l) w.heap.size 151 l := (Gr.alloc _ _).blk (By.new w _ l)
theorem two16_b (w : World) (l : List UInt8) : By (two16 w l) (w.heap.size + 1) 151 (List.replicate 16 0) := heap_alloc2_new w _ _
def subL (l : List UInt8) : List UInt8 := l.map boxB
theorem subL_len (l : List UInt8) : (subL l).length = l.length := by simp [subL]
set_option maxRecDepth 100000 in
set_option maxHeartbeats 1000000 in
theorem aesSub_any (l : List UInt8) (hl : l.length = 16) (w : World) : Calls Tryz.prog 165 #[arr l] w fun e w' => e = .returned (arr (subL l)) ∧ Gr w w' := by
  unfold arr
  obtain ⟨W, hW⟩ : ∃ W, W = two16 w l := ⟨_, rfl⟩
  have hG := two16_gr w l; have hA := two16_a w l; have hB := two16_b w l
  rw [← hW] at hG hA hB
  unfold two16 at hW
  have hsl : (subL l).length = 16 := by rw [subL_len, hl]
  have HA := Lib.hid hA; have HB := Lib.hid hB; have HG := Lib.hid hG; have HW := Lib.hid hW; have HL := Lib.hid hl; have HSL := Lib.hid hsl
  clear hA hB hG hW hl hsl
  go_enter Tryz.func165, Tryz.ntmps165
  go_upto_region 1 with fail
  rw [← HW.out]
  obtain ⟨h, hh⟩ : ∃ h, h = w.heap.size := ⟨_, rfl⟩
  rw [← hh] at HA HB ⊢
  have HH := Lib.hid hh; clear hh
  go_wp2_with (refine wpList_load_row rfl 151 (.tmp 1) rfl h rfl 151 _ (0, 0) _ HA.out Tryz.underlying151 rfl (size16 _ HL.out) ?_)
  go_loopw [6] (fun i wr => ∃ k : Nat, k ≤ 16 ∧ i = .int .i64 (k : Int) ∧ Gr w wr ∧ By wr h 151 (mixB l (subL l) k) ∧ By wr (h + 1) 151 (List.replicate 16 0)) (fun i _ => 16 - (Go.RowKit.intOf i).toNat)
  case atStart => exact ⟨0, Nat.zero_le _, rfl, HG.out, by rw [mixB_zero]; exact HA.out, HB.out⟩
  case round =>
    obtain ⟨k, hk, rfl, g, ha, hb⟩ := hrel
    have GR := Lib.hid g; have HA1 := Lib.hid ha; have HB1 := Lib.hid hb
    have p0 : (0 : Int) ≤ k := by omega
    by_cases hlt : k < 16
    · have t0 : decide ((k : Int) < 16) = true := decide_eq_true (by omega)
      have hx := run_idx16 l k HL.out hlt wr
      have cc := ha.at (i := k) (by rw [mixB_len HL.out HSL.out (by omega)]; exact hlt)
      have ff := Blk.free ha k
      have HV : Hid (gB (subL l) k = boxB (gB l k)) := gB_map _ _ _ (by rw [HL.out]; exact hlt)
      clear g ha hb
      go_wp2_with (go_at_call 185; refine (gfBox_any _ _).mono ?_; rintro e w' ⟨rfl, rfl⟩)
      go_roundw
      case rel =>
        refine ⟨k + 1, by omega, by go_num, GR.out.setCell (p := ⟨h, k, none⟩) (by rw [HH.out]; exact Nat.le_refl _) _, ?_, ?_⟩
        · rw [← mixB_set HL.out HSL.out hlt, HV.out]
          exact HA1.out.put k _
        · exact (Below.heap_setCell _ ⟨h, k, none⟩ _ (h + 1) (by show h + 1 ≠ h; omega)).trans HB1.out
      case measure => simp [Go.RowKit.intOf]; omega
    · obtain rfl : k = 16 := by omega
      rw [mixB_all HL.out HSL.out] at ha
      have HA2 := Lib.hid ha
      clear g ha hb HA1
      go_wp2_with (first
        | (refine wpList_load_row rfl 151 (.tmp 1) rfl h rfl 151 _ (0, 0) _ HA2.out Tryz.underlying151 rfl (size16 _ HSL.out) ?_)
        | (refine wpList_store_row rfl 151 (.tmp 2) (.tmp 15) rfl (h + 1) ((subL l).map u8c).toArray rfl rfl 151 _ HB1.out (size16 _ HSL.out) (by rw [arr_size, arr_size, HSL.out]; rfl) (arr_one _) ?_))
      exact bodyPost_ret (v := arr (subL l)) (results_cell_row Tryz.results165 _ _ (h + 1) 151 _ (0, 0) _ rfl HB1.out.row Tryz.underlying151 rfl (size16 _ HSL.out)) rfl ⟨rfl, byRow_below GR.out (by rw [HH.out]; exact Nat.le_succ _) _⟩
/-! ### Shift -/
def shiftL (l : List UInt8) : List UInt8 := (List.range 16).map fun i => gB l ((i + 4 * (i % 4)) % 16)
theorem shiftL_len (l : List UInt8) : (shiftL l).length = 16 := by simp [shiftL]
set_option maxRecDepth 100000 in
set_option maxHeartbeats 1000000 in
theorem aesShift_any (l : List UInt8) (hl : l.length = 16) (w : World) : Calls Tryz.prog 164 #[arr l] w fun e w' => e = .returned (arr (shiftL l)) ∧ Gr w w' := by
  unfold arr
  obtain ⟨W, hW⟩ : ∃ W, W = two16 w l := ⟨_, rfl⟩
  have hG := two16_gr w l; have hA := two16_a w l; have hB := two16_b w l
  rw [← hW] at hG hA hB
  unfold two16 at hW
  have HSL := Lib.hid (shiftL_len l)
  have HA := Lib.hid hA; have HB := Lib.hid hB; have HG := Lib.hid hG; have HW := Lib.hid hW; have HL := Lib.hid hl
  clear hA hB hG hW hl
  go_enter Tryz.func164, Tryz.ntmps164
  go_upto_region 1 with fail
  rw [← HW.out]
  obtain ⟨h, hh⟩ : ∃ h, h = w.heap.size := ⟨_, rfl⟩
  rw [← hh] at HA HB ⊢
  have HH := Lib.hid hh; clear hh
  go_wp2_with fail
  go_loopw [4] (fun i wr => ∃ k : Nat, k ≤ 16 ∧ i = .int .i64 (k : Int) ∧ Gr w wr ∧ By wr h 151 l ∧ By wr (h + 1) 151 (toK (shiftL l) k 16)) (fun i _ => 16 - (Go.RowKit.intOf i).toNat)
  case atStart => exact ⟨0, Nat.zero_le _, rfl, HG.out, HA.out, HB.out⟩
  case round =>
    obtain ⟨k, hk, rfl, g, ha, hb⟩ := hrel
    have GR := Lib.hid g; have HA1 := Lib.hid ha; have HB1 := Lib.hid hb
    have p0 : (0 : Int) ≤ k := by omega
    by_cases hlt : k < 16
    · have t0 : decide ((k : Int) < 16) = true := decide_eq_true (by omega)
      obtain ⟨q, hq⟩ : ∃ q : Nat, q = (k + 4 * (k % 4)) % 16 := ⟨_, rfl⟩
      have hq16 : q < 16 := by omega
      have c1 := ha.at (i := q) (by rw [HL.out]; exact hq16)
      have cc := hb.at (i := k) (by rw [toK_len HSL.out (by omega)]; exact hlt)
      have ff := Blk.free hb k
      have HV : Hid (gB (shiftL l) k = gB l q) := by rw [hq]; exact gB_range _ _ _ hlt
      have e1 : ((k : Int) + 4 * ((k : Int) % 4)) % 16 = (q : Int) := by omega
      have q1 : (0 : Int) ≤ q := by omega
      have q2 : (q : Int) < 16 := by omega
      clear hq
      have q0 : (0 : Int) ≤ (k : Int) % 4 := by omega
      clear g ha hb
      go_wp2_with fail
      go_roundw
      case rel =>
        refine ⟨k + 1, by omega, by go_num, GR.out.setCell (p := ⟨h + 1, k, none⟩) (by rw [HH.out]; exact Nat.le_succ _) _, ?_, ?_⟩
        · exact (Below.heap_setCell _ ⟨h + 1, k, none⟩ _ h (by show h ≠ h + 1; omega)).trans HA1.out
        · rw [← toK_set HSL.out hlt, HV.out]
          exact HB1.out.put k _
      case measure => simp [Go.RowKit.intOf]; omega
    · obtain rfl : k = 16 := by omega
      rw [toK_all HSL.out] at hb
      have HB2 := Lib.hid hb
      clear g ha hb HB1
      go_wp2_with (first
        | (refine wpList_load_row rfl 151 (.tmp 2) rfl (h + 1) rfl 151 _ (0, 0) _ HB2.out Tryz.underlying151 rfl (size16 _ HSL.out) ?_)
        | (refine wpList_store_row rfl 151 (.tmp 2) (.tmp 18) rfl (h + 1) ((shiftL l).map u8c).toArray rfl rfl 151 _ HB2.out (size16 _ HSL.out) rfl (arr_one _) ?_))
      exact bodyPost_ret (v := arr (shiftL l)) (results_cell_row Tryz.results164 _ _ (h + 1) 151 _ (0, 0) _ rfl HB2.out.row Tryz.underlying151 rfl (size16 _ HSL.out)) rfl ⟨rfl, byRow_below GR.out (by rw [HH.out]; exact Nat.le_succ _) _⟩
/-! ### Add -/
def addL (a b : List UInt8) : List UInt8 := (List.range 16).map fun i => gB a i ^^^ gB b i
theorem addL_len (a b : List UInt8) : (addL a b).length = 16 := by simp [addL]
set_option maxRecDepth 100000 in
set_option maxHeartbeats 1000000 in
theorem aesAdd_any (l m : List UInt8) (hl : l.length = 16) (hm : m.length = 16) (w : World) : Calls Tryz.prog 162 #[arr l, arr m] w fun e w' => e = .returned (arr (addL l m)) ∧ Gr w w' := by
  unfold arr
  obtain ⟨W0, hW0⟩ : ∃ W0, W0 = w.alloc (.cells (l.map u8c).toArray 151) := ⟨_, rfl⟩
  obtain ⟨W, hW⟩ : ∃ W, W = two16 W0 m := ⟨_, rfl⟩
  have hG0 : Gr w W0 := by rw [hW0]; exact Gr.alloc _ _
  have hs : W0.heap.size = w.heap.size + 1 := by rw [hW0]; simp
  have hC : By W w.heap.size 151 l := by rw [hW]; refine (two16_gr W0 m).blk ?_; rw [hW0]; exact By.new w _ l
  have hG := two16_gr W0 m; have hA := two16_a W0 m; have hB := two16_b W0 m
  rw [← hW] at hG hA hB
  rw [hs] at hA hB
  unfold two16 at hW
  rw [hW0] at hW
  have HSL := Lib.hid (addL_len l m)
  have HA := Lib.hid hA; have HB := Lib.hid hB; have HC := Lib.hid hC; have HG := Lib.hid (hG0.trans hG); have HW := Lib.hid hW; have HL := Lib.hid hl; have HM := Lib.hid hm
  clear hA hB hC hG hW hl hm hG0 hs hW0 W0
  go_enter Tryz.func162, Tryz.ntmps162
  go_upto_region 1 with fail
  rw [← HW.out]
  obtain ⟨h, hh⟩ : ∃ h, h = w.heap.size := ⟨_, rfl⟩
  rw [← hh] at HA HB HC ⊢
  have HH := Lib.hid hh; clear hh
  go_wp2_with (refine wpList_load_row rfl 151 (.tmp 3) rfl (h + 1) rfl 151 _ (0, 0) _ HA.out Tryz.underlying151 rfl (size16 _ HM.out) ?_)
  go_loopw [8] (fun i wr => ∃ k : Nat, k ≤ 16 ∧ i = .int .i64 (k : Int) ∧ Gr w wr ∧ By wr h 151 (mixB l (addL l m) k) ∧ By wr (h + 2) 151 (List.replicate 16 0)) (fun i _ => 16 - (Go.RowKit.intOf i).toNat)
  case atStart => exact ⟨0, Nat.zero_le _, rfl, HG.out, by rw [mixB_zero]; exact HC.out, HB.out⟩
  case round =>
    obtain ⟨k, hk, rfl, g, ha, hb⟩ := hrel
    have GR := Lib.hid g; have HA1 := Lib.hid ha; have HB1 := Lib.hid hb
    have p0 : (0 : Int) ≤ k := by omega
    by_cases hlt : k < 16
    · have t0 : decide ((k : Int) < 16) = true := decide_eq_true (by omega)
      have hx := run_idx16 m k HM.out hlt wr
      have cc := ha.at (i := k) (by rw [mixB_len HL.out HSL.out (by omega)]; exact hlt)
      rw [mixB_at HL.out HSL.out hlt] at cc
      have ff := Blk.free ha k
      have x1 := ub_xor (gB l k) (gB m k)
      have HV : Hid (gB (addL l m) k = gB l k ^^^ gB m k) := gB_range _ _ _ hlt
      clear g ha hb
      go_wp2_with fail
      go_roundw
      case rel =>
        refine ⟨k + 1, by omega, by go_num, GR.out.setCell (p := ⟨h, k, none⟩) (by rw [HH.out]; exact Nat.le_refl _) _, ?_, ?_⟩
        · rw [← mixB_set HL.out HSL.out hlt, HV.out]
          exact HA1.out.put k _
        · exact (Below.heap_setCell _ ⟨h, k, none⟩ _ (h + 2) (by show h + 2 ≠ h; omega)).trans HB1.out
      case measure => simp [Go.RowKit.intOf]; omega
    · obtain rfl : k = 16 := by omega
      rw [mixB_all HL.out HSL.out] at ha
      have HA2 := Lib.hid ha
      clear g ha hb HA1
      go_wp2_with (first
        | (refine wpList_load_row rfl 151 (.tmp 2) rfl h rfl 151 _ (0, 0) _ HA2.out Tryz.underlying151 rfl (size16 _ HSL.out) ?_)
        | (refine wpList_store_row rfl 151 (.tmp 4) (.tmp 19) rfl (h + 2) ((addL l m).map u8c).toArray rfl rfl 151 _ HB1.out (size16 _ HSL.out) (by rw [arr_size, arr_size, HSL.out]; rfl) (arr_one _) ?_))
      exact bodyPost_ret (v := arr (addL l m)) (results_cell_row Tryz.results162 _ _ (h + 2) 151 _ (0, 0) _ rfl HB1.out.row Tryz.underlying151 rfl (size16 _ HSL.out)) rfl ⟨rfl, byRow_below GR.out (by rw [HH.out]; exact Nat.le_add_right _ _) _⟩
end Go.Proofs.YtcfbbgbjlgonpaaGreatDoor
