/- Own texts of this claim, one behind the other. No condition. -/
import Derived.Test.YtcfbbgbjlgonpaaGreatDoorObPkAO
import Derived.Outline
import Derived.Deep.Cut

/- The field of 256 numbers: Column; arrays of bytes in memory. No condition. -/
namespace Go.Proofs.YtcfbbgbjlgonpaaGreatDoor
open Go.RowKit
set_option linter.unusedVariables false
set_option linter.unusedSimpArgs false
/-- A byte of a row. -/
def gB (l : List UInt8) (i : Nat) : UInt8 := l.getD i 0
/-- An array of bytes at block g. -/
abbrev By (w : World) (g : Nat) (t : TypeId) (l : List UInt8) : Prop := Blk w g t (l.map u8c)
theorem By.at {w : World} {g : Nat} {t : TypeId} {l : List UInt8} (h : By w g t l) {i : Nat} (hi : i < l.length) : w.cell? ⟨g, i, none⟩ = some (.int .u8 (ub (gB l i))) := by
  unfold gB
  rw [Blk.cell h, List.getElem?_map, List.getElem?_eq_getElem hi, List.getD_eq_getElem?_getD, List.getElem?_eq_getElem hi]
  rfl
theorem By.put {w : World} {g : Nat} {t : TypeId} {l : List UInt8} (h : By w g t l) (i : Nat) (x : UInt8) : By (w.setCell ⟨g, i, none⟩ (.int .u8 (ub x))) g t (l.set i x) := by
  have := Blk.set h i (.int .u8 (ub x))
  unfold By
  rw [List.map_set]
  exact this
def arr (l : List UInt8) : Value := .agg (l.map u8c).toArray
theorem arr_size (l : List UInt8) : (l.map u8c).toArray.size = l.length := by simp
theorem arr_one (l : List UInt8) : (l.map u8c).toArray.all (·.oneCell') = true := by
  rw [List.all_toArray, List.all_eq_true]
  intro x hx
  obtain ⟨y, _, rfl⟩ := List.mem_map.1 hx
  rfl
theorem By.new (w : World) (t : TypeId) (l : List UInt8) : By (w.alloc (.cells (l.map u8c).toArray t)) w.heap.size t l := by
  have := Blk.new w t (l.map u8c).toArray
  unfold By
  rwa [List.toList_toArray] at this
theorem By.row {w : World} {g : Nat} {t : TypeId} {l m : List UInt8} (h : By w g t l) : By (w.setRow g (m.map u8c).toArray) g t m := by
  exact setRow_heap w g _ _ _ _ h
theorem size4 (l : List UInt8) (hl : l.length = 4) : (Tryz.prog.info? 190).map (·.size) = some (l.map u8c).toArray.size := by rw [arr_size, hl]; kernel_rfl
def colAll (l : List UInt8) : UInt8 := gB l 0 ^^^ gB l 1 ^^^ gB l 2 ^^^ gB l 3
def colB (l : List UInt8) (i : Nat) : UInt8 := (gB l (i % 4) ^^^ colAll l) ^^^ twB (gB l (i % 4) ^^^ gB l ((i + 1) % 4))
def colL (l : List UInt8) : List UInt8 := (List.range 4).map (colB l)
theorem colL_len (l : List UInt8) : (colL l).length = 4 := by simp [colL]
/-- The first k of R, the rest 0. -/
def toK (R : List UInt8) (k n : Nat) : List UInt8 := R.take k ++ List.replicate (n - k) 0
theorem toK_len {R : List UInt8} {k n : Nat} (hR : R.length = n) (hk : k ≤ n) : (toK R k n).length = n := by simp [toK, hR]; omega
theorem toK_set {R : List UInt8} {k n : Nat} (hR : R.length = n) (hk : k < n) : (toK R k n).set k (gB R k) = toK R (k + 1) n := by
  unfold toK gB
  have hl : (R.take k).length = k := by simp; omega
  rw [List.set_append, if_neg (by omega), hl, Nat.sub_self, List.take_add_one, List.append_assoc]
  obtain ⟨m, hm⟩ : ∃ m, n - k = m + 1 := ⟨n - k - 1, by omega⟩
  rw [hm, List.replicate_succ, List.set_cons_zero, show n - (k + 1) = m by omega, List.getElem?_eq_getElem (by omega), List.getD_eq_getElem?_getD, List.getElem?_eq_getElem (by omega)]
  rfl
theorem toK_all {R : List UInt8} {n : Nat} (hR : R.length = n) : toK R n n = R := by simp [toK, ← hR]
theorem toK_zero (R : List UInt8) (n : Nat) : toK R 0 n = List.replicate n 0 := by simp [toK]
theorem colAt_any (g : Nat) (l : List UInt8) (i : Nat) (hi : i < 8) (hl : l.length = 4) (w : World) (h : By w g 190 l) :
    Calls Tryz.prog 212 #[.int .i64 (i : Int), .pointer (some ⟨g, 0, none⟩)] w fun e w' => e = .returned (.int .u8 (ub (gB l (i % 4)))) ∧ w = w' := by
  have hc := h.at (i := i % 4) (by omega)
  have p0 : (0 : Int) ≤ i := by omega
  have hr : i % 4 < 4 := by omega
  clear h
  go_enter Tryz.func212, Tryz.ntmps212
  go_wp2_with fail
  go_ret
  exact ⟨rfl, rfl⟩
def RetCol (w : World) (t : TypeId) (l : List UInt8) (e : Ending) (w' : World) : Prop := e = .returned (arr l) ∧ Gr w w'
theorem byRow_below {B : Nat} {w0 w : World} {g : Nat} (h : Below B w0 w) (hg : B ≤ g) (cs : Array Value) : Below B w0 (w.setRow g cs) :=
  ⟨h.os, h.tape, h.output, by simpa [World.setRow] using h.size, fun k hk => by
    have hne : g ≠ k := by omega
    rw [← h.block k hk]
    simp [World.setRow, Array.getElem?_modify, hne]⟩
theorem byte_store (x : UInt8) : (Value.int .u8 (ub x)).oneCell' = true := rfl
set_option maxRecDepth 100000 in
set_option maxHeartbeats 1000000 in
theorem gfColumn_any (l : List UInt8) (hl : l.length = 4) (w : World) : Calls Tryz.prog 200 #[arr l] w fun e w' => e = .returned (arr (colL l)) ∧ Gr w w' := by
  unfold arr
  obtain ⟨W, hW⟩ : ∃ W, W = (w.alloc (.cells (l.map u8c).toArray 190)).alloc (.cells #[.int .u8 0, .int .u8 0, .int .u8 0, .int .u8 0] 190) := ⟨_, rfl⟩
  have hG : Gr w W := by rw [hW]; exact (Gr.alloc _ _).trans (Gr.alloc _ _)
  have hA : By W w.heap.size 190 l := by rw [hW]; exact (Gr.alloc _ _).blk (By.new w _ l)
  have hB : By W (w.heap.size + 1) 190 (toK (colL l) 0 4) := by
    rw [hW]
    exact heap_alloc2_new w _ _
  have c0 := hA.at (i := 0) (by omega); have c1 := hA.at (i := 1) (by omega); have c2 := hA.at (i := 2) (by omega); have c3 := hA.at (i := 3) (by omega)
  have x1 := ub_xor (gB l 0) (gB l 1); have x2 := ub_xor (gB l 0 ^^^ gB l 1) (gB l 2); have x3 := ub_xor (gB l 0 ^^^ gB l 1 ^^^ gB l 2) (gB l 3)
  have HA := Lib.hid hA; have HB := Lib.hid hB; have HG := Lib.hid hG; have HW := Lib.hid hW; have HL := Lib.hid hl
  clear hA hB hG hW hl
  go_enter Tryz.func200, Tryz.ntmps200
  go_upto_region 2 with fail
  rw [← HW.out]
  go_wp2_with fail
  rw [show gB l 0 ^^^ gB l 1 ^^^ gB l 2 ^^^ gB l 3 = colAll l from rfl]
  clear c0 c1 c2 c3 x1 x2 x3
  obtain ⟨h, hh⟩ : ∃ h, h = w.heap.size := ⟨_, rfl⟩
  rw [← hh] at HA HB ⊢
  have HH := Lib.hid hh; clear hh
  go_loopw [18] (fun i wr => ∃ k : Nat, k ≤ 4 ∧ i = .int .i64 (k : Int) ∧ Gr w wr ∧ By wr h 190 l ∧ By wr (h + 1) 190 (toK (colL l) k 4)) (fun i _ => 4 - (Go.RowKit.intOf i).toNat)
  case atStart => exact ⟨0, Nat.zero_le _, rfl, HG.out, HA.out, HB.out⟩
  case round =>
    obtain ⟨k, hk, rfl, g, ha, hb⟩ := hrel
    have GR := Lib.hid g; have HA1 := Lib.hid ha; have HB1 := Lib.hid hb
    have p0 : (0 : Int) ≤ k := by omega
    have hbl : (toK (colL l) k 4).length = 4 := toK_len (colL_len l) hk
    by_cases hlt : k < 4
    · have t0 : decide ((k : Int) < 4) = true := decide_eq_true (by omega)
      have HC0 : Hid (Calls Tryz.prog 212 #[.int .i64 (k : Int), .pointer (some ⟨h, 0, none⟩)] wr fun e w' => e = .returned (.int .u8 (ub (gB l (k % 4)))) ∧ wr = w') := colAt_any h l k (by omega) HL.out wr ha
      have HC1 : Hid (Calls Tryz.prog 212 #[.int .i64 ((k : Int) + 1), .pointer (some ⟨h, 0, none⟩)] wr fun e w' => e = .returned (.int .u8 (ub (gB l ((k + 1) % 4)))) ∧ wr = w') := by
        have := colAt_any h l (k + 1) (by omega) HL.out wr ha
        rwa [Int.natCast_succ] at this
      obtain ⟨x, hx⟩ : ∃ x, x = gB l (k % 4) := ⟨_, rfl⟩
      obtain ⟨y, hy⟩ : ∃ y, y = gB l ((k + 1) % 4) := ⟨_, rfl⟩
      rw [← hx] at HC0
      rw [← hy] at HC1
      have x1 := ub_xor x (colAll l); have x2 := ub_xor x y; have x3 := ub_xor (x ^^^ colAll l) (twB (x ^^^ y))
      have HV : Hid (gB (colL l) k = (x ^^^ colAll l) ^^^ twB (x ^^^ y)) := by
        show gB (colL l) k = _
        rw [hx, hy]
        unfold gB colL
        rw [List.getD_eq_getElem?_getD, List.getElem?_map, List.getElem?_range hlt]
        rfl
      have cc := hb.at (i := k) (by omega)
      have ff := Blk.free hb k
      clear g ha hb hx hy hbl
      go_wp2_with (first
        | (go_at_call 212; first | (refine HC0.out.mono ?_; rintro e w' ⟨rfl, rfl⟩) | (refine HC1.out.mono ?_; rintro e w' ⟨rfl, rfl⟩))
        | (go_at_call 213; refine (twice_any _ _).mono ?_; rintro e w' ⟨rfl, rfl⟩))
      go_roundw
      case rel =>
        refine ⟨k + 1, by omega, by go_num, GR.out.setCell (p := ⟨h + 1, k, none⟩) (by rw [HH.out]; exact Nat.le_succ _) _, ?_, ?_⟩
        · exact (Below.heap_setCell _ ⟨h + 1, k, none⟩ _ h (by show h ≠ h + 1; omega)).trans HA1.out
        · rw [← toK_set (colL_len l) hlt, HV.out]
          exact HB1.out.put k _
      case measure => simp [Go.RowKit.intOf]; omega
    · obtain rfl : k = 4 := by omega
      rw [toK_all (colL_len l)] at hb
      have HB2 := Lib.hid hb
      clear g ha hb hbl HB1
      go_wp2_with (first
        | (refine wpList_load_row rfl 190 (.tmp 2) rfl (h + 1) rfl 190 _ (0, 0) _ HB2.out Tryz.underlying190 rfl (size4 _ (colL_len l)) ?_)
        | (refine wpList_store_row rfl 190 (.tmp 2) (.tmp 39) rfl (h + 1) ((colL l).map u8c).toArray rfl rfl 190 _ HB2.out (size4 _ (colL_len l)) rfl (arr_one _) ?_))
      exact bodyPost_ret (v := arr (colL l)) (results_cell_row Tryz.results200 _ _ (h + 1) 190 _ (0, 0) _ rfl HB2.out.row Tryz.underlying190 rfl (size4 _ (colL_len l))) rfl ⟨rfl, byRow_below GR.out (by rw [HH.out]; exact Nat.le_succ _) _⟩
end Go.Proofs.YtcfbbgbjlgonpaaGreatDoor
