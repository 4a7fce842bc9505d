/- ObChH, ObChI: one text. No condition. -/
import Derived.Test.YthlnoaalhojphaaGreatDoorObChC
import Derived.Test.YthlnoaalhojphaaGreatDoorObSmall
namespace Go.Proofs.YthlnoaalhojphaaGreatDoor
open Go.RowKit
set_option linter.unusedVariables false

/-! ### Of: a chain of the reference as the program's -/
theorem Own.setAt {w wr w3 : World} {p i : Nat} {x y : Value} {e : TypeId} {size n : Nat} {v : Value} {xs : List Value} (h : Own (w.setCell ⟨p, i, none⟩ x) wr e size v n xs) (hp : p < w.heap.size) (hb : Below wr.heap.size (wr.setCell ⟨p, i, none⟩ y) w3) : Own (w.setCell ⟨p, i, none⟩ y) w3 e size v n xs := by
  have h1 : Own (w.setCell ⟨p, i, none⟩ y) (wr.setCell ⟨p, i, none⟩ y) e size v n xs := by
    refine ⟨?_, ?_⟩
    · rw [setCell_size]
      have := h.1
      rw [setCell_size] at this
      exact ownsRow_setCell_below this hp y
    · have h2 := Below.setBoth (p := p) h.2 i y
      rw [setCell_size] at h2 ⊢
      exact (Below.setTwice p i x y).trans h2
  exact h1.mono (by rw [setCell_size]; exact hb)
theorem wr_take (L : List Wr) (k : Nat) (x : Wr) (h : L[k]? = some x) : (L.take (k + 1)).flatMap Wr.cells = (L.take k).flatMap Wr.cells ++ x.cells := by
  have hk : k < L.length := (List.getElem?_eq_some_iff.1 h).1
  rw [List.getElem?_eq_getElem hk] at h
  injection h with h
  rw [List.take_succ_eq_append_getElem hk, List.flatMap_append, h]
  simp
def RetOf (t : TypeId) (w : World) (p0 : Int) (A : Option Addr) (n c : Nat) (L : List Wr) (e : Ending) (w' : World) : Prop :=
  ∃ v, e = .returned (.agg #[.int .i64 p0, .slice A n c, v]) ∧ Own w w' t 2 v L.length (L.flatMap Wr.cells)
end Go.Proofs.YthlnoaalhojphaaGreatDoor
namespace Go.Proofs.YthlnoaalhojphaaGreatDoor
open Go.RowKit
set_option linter.unusedVariables false

/-! ### Back: a chain of the program as the reference's -/
theorem crSize : (Tryz.prog.info? 76).map (·.size) = some 3 := by kernel_rfl
theorem wpList_store_cr {ops : Array Oper} {rest : List Oper} {o : Oper} {a : Act} {w : World} {Q : Exit → Act → World → Prop} (hgd : o.guard = none) (x y : Operand) (ho : o.op = .store 76 x y)
    (g : Nat) (i : Int) (A B : Option Addr) (n c m d : Nat) (hx : a.eval x = .pointer (some ⟨g, 0, none⟩)) (hy : a.eval y = .agg #[.int .i64 i, .slice A n c, .slice B m d]) {old0 old1 old2 : Value} (hg : Blk w g 76 [old0, old1, old2])
    (h : wpList Tryz.prog ops Q rest (a.put o.dst undef) (w.setRow g #[.int .i64 i, .slice A n c, .slice B m d])) : wpList Tryz.prog ops Q (o :: rest) a w :=
  wpList_store_row hgd 76 x y ho g _ hx hy 76 #[old0, old1, old2] hg crSize rfl (chOne _ _ _ _ _ _ _) h
set_option maxRecDepth 100000 in
set_option maxHeartbeats 2000000 in
theorem back22_any (p0 : Int) (A B : Option Addr) (n c m d : Nat) (L : List Wr) (w : World) (hL : Wrs w B m d L) (hm : m ≤ 1000) :
    Calls Tryz.prog 32 #[.agg #[.int .i64 p0, .slice A n c, .slice B m d]] w (RetOf 101 w p0 A n c L) := by
  have hmax := hL.2.1.max
  have hcap := hL.2.1.cap
  have hll := hL.1
  obtain ⟨W, hW⟩ : ∃ W, W = ((w.alloc (.cells #[.int .i64 p0, .slice A n c, .slice B m d] 50)).alloc (.cells #[.int .i64 0, .slice none 0 0, .slice none 0 0] 76)).alloc (.cells #[.int .i64 p0, .slice A n c, .slice none 0 0] 76) := ⟨_, rfl⟩
  have hBW : Below w.heap.size w W := by rw [hW]; exact (((Below.refl _ _).alloc (Nat.le_refl _) _).alloc (by simp) _).alloc (by simp; omega) _
  have hb1 : Blk W w.heap.size 50 [.int .i64 p0, .slice A n c, .slice B m d] := by rw [hW]; exact ((Blk.new w 50 #[.int .i64 p0, .slice A n c, .slice B m d]).alloc _).alloc _
  have hb2 : Blk W (w.heap.size + 1) 76 [.int .i64 0, .slice none 0 0, .slice none 0 0] := by
    rw [hW]
    exact Blk.alloc (cs := [.int .i64 0, .slice none 0 0, .slice none 0 0]) (heap_alloc2_new w _ _) _
  have hb3 : Blk W (w.heap.size + 1 + 1) 76 [.int .i64 p0, .slice A n c, .slice none 0 0] := by
    rw [hW]
    have := heap_alloc2_new (w.alloc (.cells #[.int .i64 p0, .slice A n c, .slice B m d] 50)) (.cells #[.int .i64 0, .slice none 0 0, .slice none 0 0] 76) (.cells #[.int .i64 p0, .slice A n c, .slice none 0 0] 76)
    rw [show (w.alloc (.cells #[.int .i64 p0, .slice A n c, .slice B m d] 50)).heap.size = w.heap.size + 1 by simp] at this
    exact this
  have hzW : W.heap.size = w.heap.size + 1 + 1 + 1 := by rw [hW]; simp
  have hsame : Below W.heap.size (W.setCell ⟨w.heap.size + 1 + 1, 2, none⟩ (.slice none 0 0)) W := by
    refine ⟨rfl, rfl, rfl, by simp [World.setCell], fun k hk => ?_⟩
    by_cases e : k = w.heap.size + 1 + 1
    · subst e
      have h1 : W.heap[w.heap.size + 1 + 1]? = some (.cells #[.int .i64 p0, .slice A n c, .slice none 0 0] 76 (0, 0)) := hb3
      simp [World.setCell, Array.getElem?_modify, h1]
    · rw [Below.heap_setCell _ _ _ k e]
  have O0 : Hid (Own (W.setCell ⟨w.heap.size + 1 + 1, 2, none⟩ (.slice none 0 0)) W 101 2 (.slice none 0 0) 0 ((L.take 0).flatMap Wr.cells)) := Own.nil' (by rw [setCell_size]; exact hsame) _ _
  have HB1 := Lib.hid hb1; have HB2 := Lib.hid hb2; have HB3 := Lib.hid hb3; have HBW := Lib.hid hBW; have HZ := Lib.hid hzW; have HW := Lib.hid hW; have HL := Lib.hid hL; have HLL := Lib.hid hll
  clear hL hll hb1 hb2 hb3 hBW hzW hW hsame
  go_enter Tryz.func32, Tryz.ntmps32
  go_wp2_with fail
  rw [← HW.out]
  go_loopw [4] (fun i wr => ∃ (k : Nat) (A' : Option Addr) (c' : Nat), k ≤ m ∧ i = .int .i64 (k : Int) ∧ Blk wr (w.heap.size + 1 + 1) 76 [.int .i64 p0, .slice A n c, .slice A' k c'] ∧ Own (W.setCell ⟨w.heap.size + 1 + 1, 2, none⟩ (.slice A' k c')) wr 101 2 (.slice A' k c') k ((L.take k).flatMap Wr.cells)) (fun i _ => m - (Go.RowKit.intOf i).toNat)
  case atStart => exact ⟨0, none, 0, Nat.zero_le _, rfl, HB3.out, O0.out⟩
  case round =>
    obtain ⟨k, A', c', hk, rfl, bk3, own⟩ := hrel
    have hbs : Below W.heap.size (W.setCell ⟨w.heap.size + 1 + 1, 2, none⟩ (.slice A' k c')) wr := by have := own.below; rw [setCell_size] at this; exact this
    have hz := HZ.out
    have bk1 : Blk wr w.heap.size 50 [.int .i64 p0, .slice A n c, .slice B m d] := (hbs.block _ (by omega)).trans (HB1.out.far (p := ⟨w.heap.size + 1 + 1, 2, none⟩) (by simp; omega) _)
    have bk2 : Blk wr (w.heap.size + 1) 76 [.int .i64 0, .slice none 0 0, .slice none 0 0] := (hbs.block _ (by omega)).trans (HB2.out.far (p := ⟨w.heap.size + 1 + 1, 2, none⟩) (by simp) _)
    have hbw : Below w.heap.size w wr := (HBW.out.setCell (p := ⟨w.heap.size + 1 + 1, 2, none⟩) (by show w.heap.size ≤ w.heap.size + 1 + 1; omega) _).trans (hbs.mono (by omega))
    have x2 : wr.cell? ⟨w.heap.size, 2, none⟩ = some (.slice B m d) := (bk1.cell 2).trans rfl
    have y2 : wr.cell? ⟨w.heap.size + 1 + 1, 2, none⟩ = some (.slice A' k c') := (bk3.cell 2).trans rfl
    have hnb : (Value.slice A' k c').ownBlock ≠ some (w.heap.size + 1 + 1) := fun e => by have := (own.1.lt _ e).1; rw [setCell_size] at this; omega
    have BK3 := Lib.hid bk3; have BK1 := Lib.hid bk1; have BK2 := Lib.hid bk2; have OW := Lib.hid own; have HBW2 := Lib.hid hbw; have NB := Lib.hid hnb
    by_cases hlt : k < m
    · obtain ⟨b, o, ⟨xp, xr⟩, rfl, hx, c1, c2, hrow, hp1, hp2⟩ := (HL.out.mono hbw).row hlt
      simp only at c1 c2 hrow hp1 hp2
      have HT := Lib.hid (wr_take L k _ hx)
      have hlt2 : (k : Int) < m := by omega
      have p0' : (0 : Int) ≤ k := by omega
      clear bk3 own hbs hz bk1 bk2 hbw hnb hx hrow
      have y2a : (wr.alloc (.cells #[.int .i64 xp, .slice xr.a xr.n xr.c] 101)).cell? ⟨w.heap.size + 1 + 1, 2, none⟩ = some (.slice A' k c') := ((BK3.out.alloc _).cell 2).trans rfl
      go_wp2_with fail
      go_region_law (refine step_pushG rfl (.tmp 18) (.tmp 32) 74 rfl tSr rfl (by exact (OW.out.alloc _).drew) _ _ (Wr.cells ⟨xp, xr⟩) rfl rfl (Wr.ones _) (by exact cells_new _ 1 #[.int .i64 xp, .slice xr.a xr.n xr.c] _) (by omega) ?_; intro v1 w1 own1 kept1; obtain ⟨A1, c1', rfl, sl1⟩ := own1.slice; have O1 := Lib.hid own1; have BKN : Hid (Blk w1 (w.heap.size + 1 + 1) 76 [.int .i64 p0, .slice A n c, .slice A' k c']) := (kept1.1 _ (BK3.out.alloc _).lt NB.out).trans (BK3.out.alloc _); have z2 : w1.cell? ⟨w.heap.size + 1 + 1, 2, none⟩ = some (.slice A' k c') := (BKN.out.cell 2).trans rfl; have f2 := BKN.out.free 2; clear own1 kept1 sl1)
      all_goals
        have O2 : Hid (Own (W.setCell ⟨w.heap.size + 1 + 1, 2, none⟩ (.slice A1 (k + 1) c1')) (w1.setCell ⟨w.heap.size + 1 + 1, 2, none⟩ (.slice A1 (k + 1) c1')) 101 2 (.slice A1 (k + 1) c1') (k + 1) ((L.take (k + 1)).flatMap Wr.cells)) := by rw [HT.out]; exact O1.out.setAt (by have := HZ.out; omega) (Below.refl _ _)
        have BKF : Hid (Blk (w1.setCell ⟨w.heap.size + 1 + 1, 2, none⟩ (.slice A1 (k + 1) c1')) (w.heap.size + 1 + 1) 76 [.int .i64 p0, .slice A n c, .slice A1 (k + 1) c1']) := BKN.out.set 2 _
        clear z2 f2 y2a y2 x2 c1 c2
        go_wp2_with fail
        go_roundw
        case rel => exact ⟨k + 1, A1, c1', by omega, by go_num, BKF.out, O2.out⟩
        case measure => simp [Go.RowKit.intOf]; omega
    · obtain rfl : k = m := by omega
      have FO : Hid (Own w wr 101 2 (.slice A' k c') L.length (L.flatMap Wr.cells)) := by
        have h := OW.out.1
        rw [List.take_of_length_le (by rw [HLL.out]; omega)] at h
        rw [HLL.out]
        refine ⟨⟨h.1, ?_⟩, HBW2.out⟩
        rcases h.2 with h | ⟨g, cap, cu, hv, hg, hh, r⟩
        · exact .inl h
        · exact .inr ⟨g, cap, cu, hv, by rw [setCell_size] at hg; have := HZ.out; omega, hh, r⟩
      have NB2 : Hid ((Value.slice A' k c').ownBlock ≠ some (w.heap.size + 1)) := fun e => by have := (OW.out.1.lt _ e).1; rw [setCell_size] at this; have := HZ.out; omega
      have y0 : wr.cell? ⟨w.heap.size + 1 + 1, 0, none⟩ = some (.int .i64 p0) := (bk3.cell 0).trans rfl
      have y1 : wr.cell? ⟨w.heap.size + 1 + 1, 1, none⟩ = some (.slice A n c) := (bk3.cell 1).trans rfl
      clear bk3 own hbs hz bk1 bk2 hbw hnb
      go_wp2_with (refine wpList_store_cr rfl (.tmp 2) (.tmp 35) rfl (w.heap.size + 1) p0 A A' n c k c' rfl rfl BK2.out ?_)
      have hN : (wr.setRow (w.heap.size + 1) #[.int .i64 p0, .slice A n c, .slice A' k c']).heap[w.heap.size + 1]? = some (.cells #[.int .i64 p0, .slice A n c, .slice A' k c'] 76 (0, 0)) := setRow_heap wr (w.heap.size + 1) _ _ _ _ BK2.out
      have hB4 : Below w.heap.size w (wr.setRow (w.heap.size + 1) #[.int .i64 p0, .slice A n c, .slice A' k c']) := below_row HBW2.out (by omega) _
      have hO : Own w (wr.setRow (w.heap.size + 1) #[.int .i64 p0, .slice A n c, .slice A' k c']) 101 2 (.slice A' k c') L.length (L.flatMap Wr.cells) := by
        obtain ⟨⟨h1, h2⟩, _⟩ := FO.out
        refine ⟨⟨h1, ?_⟩, hB4⟩
        rcases h2 with h | ⟨g, cap, cu, hv, hg, hh, r⟩
        · exact .inl h
        · exact .inr ⟨g, cap, cu, hv, hg, by rw [setRow_other wr (w.heap.size + 1) g _ (fun e => NB2.out (by rw [hv, e]; rfl))]; exact hh, r⟩
      exact bodyPost_ret (v := .agg #[.int .i64 p0, .slice A n c, .slice A' k c']) (results_cell_row Tryz.results32 _ _ (w.heap.size + 1) 76 _ (0, 0) _ rfl hN Tryz.underlying76 rfl crSize) rfl ⟨_, rfl, hO⟩
end Go.Proofs.YthlnoaalhojphaaGreatDoor
