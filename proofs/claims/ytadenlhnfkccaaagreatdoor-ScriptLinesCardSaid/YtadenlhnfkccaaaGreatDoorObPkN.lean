/- Own texts of this claim, one behind the other. No condition. -/
import Derived.Test.YtadenlhnfkccaaaGreatDoorObPkA
import Derived.Test.YtadenlhnfkccaaaGreatDoorObPkC
import Derived.Test.YtadenlhnfkccaaaGreatDoorObPkF
import Derived.Test.YtadenlhnfkccaaaGreatDoorObPkI
import Derived.Test.YtadenlhnfkccaaaGreatDoorObPkJ
import Derived.Test.YtadenlhnfkccaaaGreatDoorObPkK
import Derived.Test.YtadenlhnfkccaaaGreatDoorObPkM
import Derived.Outline
import Derived.Great.BuildSlice
import Derived.Deep.MidRow
import Derived.ProofKit
import Derived.Deep.Slices
import Derived.Deep.Fields
import Derived.Lib.SmallJoins

/- Lines of scripts: the reference's same line. No condition. -/
namespace Go.Proofs.YtadenlhnfkccaaaGreatDoor
open Go.RowKit
set_option linter.unusedVariables false
set_option linter.unusedSimpArgs false
set_option maxRecDepth 100000 in
set_option maxHeartbeats 4000000 in
theorem refSame41_any (x y : LnV) (w : World) (hx : LnAt w x) (hy : LnAt w y) : Calls Tryz.prog 12 #[.agg x.arr, .agg y.arr] w fun e w' => e = .returned (.bool (sameT x.d y.d)) ∧ Gr w w' := by
  have G0 : Hid (Gr w ((w.alloc (.cells x.arr 29)).alloc (.cells y.arr 29))) := (Gr.alloc w _).trans (Gr.alloc _ _)
  have HX : Hid (∀ wq, Gr ((w.alloc (.cells x.arr 29)).alloc (.cells y.arr 29)) wq → ∀ (i : Nat) (v : Value), x.cells[i]? = some v → wq.cell? ⟨w.heap.size, i, none⟩ = some v) := fun wq g i v h => ((((Blk.new w 29 x.arr).alloc _).mono g).cell i).trans h
  have HY : Hid (∀ wq, Gr ((w.alloc (.cells x.arr 29)).alloc (.cells y.arr 29)) wq → ∀ (i : Nat) (v : Value), y.cells[i]? = some v → wq.cell? ⟨w.heap.size + 1, i, none⟩ = some v) := fun wq g i v h => by
    have hB := Blk.new (w.alloc (.cells x.arr 29)) 29 y.arr
    rw [World.size_alloc] at hB
    exact ((hB.mono g).cell i).trans h
  have HAL : Hid (∀ wq, Gr w wq → Calls Tryz.prog 38 #[opV x.d.o x.A x.d.o.x.length x.c, opV y.d.o y.A y.d.o.x.length y.c] wq fun e w' => e = .returned (.bool (sameO x.d.o y.d.o)) ∧ Gr wq w') := fun wq g => refSame39_any _ _ _ _ _ _ _ _ wq (hx.o.mono g) (hy.o.mono g)
  have HEQ : Hid (∀ wq, Gr w wq → Calls Tryz.prog 23 #[.slice x.B x.d.p.length x.q, .slice y.B y.d.p.length y.q] wq fun e w' => e = .returned (.bool (x.d.p == y.d.p)) ∧ Gr wq w') := fun wq g => (ints_any _ _ _ _ _ _ _ _ wq (hx.p.mono g) (hy.p.mono g)).mono fun e w' h => ⟨h.1, by obtain ⟨k, rfl⟩ := h.2; exact belowN (Gr.refl _) k⟩
  have HSM : Hid (∀ wq, Gr w wq → Calls Tryz.prog 39 #[.slice x.C x.d.b.length x.s, .slice y.C y.d.b.length y.s] wq fun e w' => e = .returned (.bool (x.d.b == y.d.b)) ∧ Gr wq w') := fun wq g => (refSame_any _ _ _ _ _ _ _ _ wq (hx.b.mono g) (hy.b.mono g)).mono fun e w' h => ⟨h.1, by obtain ⟨k, rfl⟩ := h.2; exact belowN (Gr.refl _) k⟩
  obtain ⟨g1, hg1⟩ : ∃ g : ByteArray, g = ⟨x.d.g.toArray⟩ := ⟨_, rfl⟩
  obtain ⟨i1, hi1⟩ : ∃ g : ByteArray, g = ⟨x.d.i.toArray⟩ := ⟨_, rfl⟩
  obtain ⟨g2, hg2⟩ : ∃ g : ByteArray, g = ⟨y.d.g.toArray⟩ := ⟨_, rfl⟩
  obtain ⟨i2, hi2⟩ : ∃ g : ByteArray, g = ⟨y.d.i.toArray⟩ := ⟨_, rfl⟩
  have HE : Hid (sameT x.d y.d = (x.d.k == y.d.k && sameO x.d.o y.d.o && x.d.n == y.d.n && x.d.p == y.d.p && x.d.t == y.d.t && x.d.a == y.d.a && (g1.toList == g2.toList && x.d.e == y.d.e && i1.toList == i2.toList) && x.d.b == y.d.b)) := by
    show _ = _
    rw [hg1, hi1, hg2, hi2]
    simp only [ByteArray.toList_eq]
    rfl
  have VG1 : Hid (strc x.d.g = .string g1) := by show _ = _; rw [hg1]; rfl
  have VI1 : Hid (strc x.d.i = .string i1) := by show _ = _; rw [hi1]; rfl
  have VG2 : Hid (strc y.d.g = .string g2) := by show _ = _; rw [hg2]; rfl
  have VI2 : Hid (strc y.d.i = .string i2) := by show _ = _; rw [hi2]; rfl
  clear hg1 hi1 hg2 hi2 hx hy
  have x0 := HX.out _ (Gr.refl _) 0 _ rfl
  have y0 := HY.out _ (Gr.refl _) 0 _ rfl
  go_enter Tryz.func12, Tryz.ntmps12
  cases t0 : (x.d.k == y.d.k) with
  | false =>
    go_wp2_with fail
    go_ret
    exact ⟨by rw [HE.out, t0]; rfl, G0.out⟩
  | true =>
  have x1 := HX.out _ (Gr.refl _) 1 _ rfl
  have y1 := HY.out _ (Gr.refl _) 1 _ rfl
  have x2 := HX.out _ (Gr.refl _) 2 _ rfl
  have y2 := HY.out _ (Gr.refl _) 2 _ rfl
  have x3 := HX.out _ (Gr.refl _) 3 _ rfl
  have y3 := HY.out _ (Gr.refl _) 3 _ rfl
  have x4 := HX.out _ (Gr.refl _) 4 _ rfl
  have y4 := HY.out _ (Gr.refl _) 4 _ rfl
  have x5 := HX.out _ (Gr.refl _) 5 _ rfl
  have y5 := HY.out _ (Gr.refl _) 5 _ rfl
  have x6 := HX.out _ (Gr.refl _) 6 _ rfl
  have y6 := HY.out _ (Gr.refl _) 6 _ rfl
  have x7 := HX.out _ (Gr.refl _) 7 _ rfl
  have y7 := HY.out _ (Gr.refl _) 7 _ rfl
  have x8 := HX.out _ (Gr.refl _) 8 _ rfl
  have y8 := HY.out _ (Gr.refl _) 8 _ rfl
  go_wp2_with fail
  refine (HAL.out _ G0.out).mono ?_
  rintro e w2 ⟨rfl, g⟩
  have GX2 := Lib.hid g
  clear g x0 x1 x2 x3 x4 x5 x6 x7 x8 y0 y1 y2 y3 y4 y5 y6 y7 y8
  cases t1 : sameO x.d.o y.d.o with
  | false =>
    go_wp2_with fail
    go_ret
    exact ⟨by rw [HE.out, t1, Bool.and_false]; rfl, G0.out.trans GX2.out⟩
  | true =>
  have x9 := HX.out _ GX2.out 9 _ rfl
  have y9 := HY.out _ GX2.out 9 _ rfl
  have x10 := HX.out _ GX2.out 10 _ rfl
  have y10 := HY.out _ GX2.out 10 _ rfl
  cases t2 : (x.d.n == y.d.n) with
  | false =>
    go_wp2_with fail
    go_ret
    exact ⟨by rw [HE.out, t2, Bool.and_false]; rfl, G0.out.trans GX2.out⟩
  | true =>
  go_wp2_with fail
  refine (HEQ.out _ (G0.out.trans GX2.out)).mono ?_
  rintro e w3 ⟨rfl, g⟩
  have GX3 := Lib.hid (GX2.out.trans g)
  clear g x9 x10 y9 y10
  cases t3 : (x.d.p == y.d.p) with
  | false =>
    go_wp2_with fail
    go_ret
    exact ⟨by rw [HE.out, t3, Bool.and_false]; rfl, G0.out.trans GX3.out⟩
  | true =>
  have x11 := HX.out _ GX3.out 11 _ rfl
  have y11 := HY.out _ GX3.out 11 _ rfl
  have x12 := HX.out _ GX3.out 12 _ rfl
  have y12 := HY.out _ GX3.out 12 _ rfl
  have x13 := HX.out _ GX3.out 13 _ rfl
  have y13 := HY.out _ GX3.out 13 _ rfl
  have x14 := HX.out _ GX3.out 14 _ rfl
  have y14 := HY.out _ GX3.out 14 _ rfl
  have x15 := HX.out _ GX3.out 15 _ rfl
  have y15 := HY.out _ GX3.out 15 _ rfl
  have x16 := HX.out _ GX3.out 16 _ rfl
  have y16 := HY.out _ GX3.out 16 _ rfl
  rw [VG1.out] at x13
  rw [VG2.out] at y13
  rw [VI1.out] at x15
  rw [VI2.out] at y15
  cases t4 : (x.d.t == y.d.t) with
  | false =>
    go_wp2_with fail
    go_ret
    exact ⟨by rw [HE.out, t4, Bool.and_false]; rfl, G0.out.trans GX3.out⟩
  | true =>
  cases t5 : (x.d.a == y.d.a) with
  | false =>
    go_wp2_with fail
    go_ret
    exact ⟨by rw [HE.out, t5, Bool.and_false]; rfl, G0.out.trans GX3.out⟩
  | true =>
  by_cases hg : g1.toList = g2.toList
  · by_cases he : x.d.e = y.d.e
    · by_cases hi : i1.toList = i2.toList
      · have HE7 : Hid (sameT x.d y.d = (x.d.b == y.d.b)) := by
          show _ = _
          rw [HE.out, t0, t1, t2, t3, t4, t5, hg, he, hi]
          simp
        go_wp2_with fail
        refine (HSM.out _ (G0.out.trans GX3.out)).mono ?_
        rintro e w4 ⟨rfl, g⟩
        have GX4 := Lib.hid (GX3.out.trans g)
        clear g
        go_wp2_with fail
        go_ret
        exact ⟨by rw [HE7.out]; rfl, G0.out.trans GX4.out⟩
      · have HE7 : Hid (sameT x.d y.d = false) := by
          show _ = _
          rw [HE.out, beq_false_of_ne hi]
          simp
        go_wp2_with fail
        go_ret
        exact ⟨by rw [HE7.out]; rfl, G0.out.trans GX3.out⟩
    · have HE7 : Hid (sameT x.d y.d = false) := by
        show _ = _
        rw [HE.out, beq_false_of_ne he]
        simp
      go_wp2_with fail
      go_ret
      exact ⟨by rw [HE7.out]; rfl, G0.out.trans GX3.out⟩
  · have HE7 : Hid (sameT x.d y.d = false) := by
      show _ = _
      rw [HE.out, beq_false_of_ne hg]
      simp
    go_wp2_with fail
    go_ret
    exact ⟨by rw [HE7.out]; rfl, G0.out.trans GX3.out⟩
end Go.Proofs.YtadenlhnfkccaaaGreatDoor

/- Lines of scripts: the law's small functions. No condition. -/
namespace Go.Proofs.YtadenlhnfkccaaaGreatDoor
open Go.RowKit
set_option linter.unusedVariables false
set_option linter.unusedSimpArgs false
theorem refLnSize : (Tryz.prog.info? 29).map (·.size) = some 17 := by kernel_rfl
set_option maxRecDepth 100000 in
set_option maxHeartbeats 4000000 in
theorem ofLn_any (x : LnV) (w : World) : Calls Tryz.prog 8 #[.agg x.arr] w fun e w' => e = .returned (.agg x.arr) ∧ Gr w w' := by
  have HX : Hid (∀ (i : Nat) (v : Value), x.cells[i]? = some v → ((w.alloc (.cells x.arr 29)).alloc (.cells #[.int .i64 0, .int .i64 0, .string ⟨#[]⟩, .string ⟨#[]⟩, .int .i64 0, .int .i64 0, .int .i64 0, .int .i64 0, .slice none 0 0, .int .i64 0, .slice none 0 0, .int .i64 0, .int .i64 0, .string ⟨#[]⟩, .int .i64 0, .string ⟨#[]⟩, .slice none 0 0] 37)).cell? ⟨w.heap.size, i, none⟩ = some v) := fun i v h => (((Blk.new w 29 x.arr).alloc _).cell i).trans h
  have HZ : Hid (((w.alloc (.cells x.arr 29)).alloc (.cells #[.int .i64 0, .int .i64 0, .string ⟨#[]⟩, .string ⟨#[]⟩, .int .i64 0, .int .i64 0, .int .i64 0, .int .i64 0, .slice none 0 0, .int .i64 0, .slice none 0 0, .int .i64 0, .int .i64 0, .string ⟨#[]⟩, .int .i64 0, .string ⟨#[]⟩, .slice none 0 0] 37)).heap[w.heap.size + 1]? = some (.cells #[.int .i64 0, .int .i64 0, .string ⟨#[]⟩, .string ⟨#[]⟩, .int .i64 0, .int .i64 0, .int .i64 0, .int .i64 0, .slice none 0 0, .int .i64 0, .slice none 0 0, .int .i64 0, .int .i64 0, .string ⟨#[]⟩, .int .i64 0, .string ⟨#[]⟩, .slice none 0 0] 37 (0, 0))) := by
    have := heap_alloc_new (w.alloc (.cells x.arr 29)) (.cells #[.int .i64 0, .int .i64 0, .string ⟨#[]⟩, .string ⟨#[]⟩, .int .i64 0, .int .i64 0, .int .i64 0, .int .i64 0, .slice none 0 0, .int .i64 0, .slice none 0 0, .int .i64 0, .int .i64 0, .string ⟨#[]⟩, .int .i64 0, .string ⟨#[]⟩, .slice none 0 0] 37)
    rw [World.size_alloc] at this
    exact this
  have G0 : Hid (Gr w ((w.alloc (.cells x.arr 29)).alloc (.cells #[.int .i64 0, .int .i64 0, .string ⟨#[]⟩, .string ⟨#[]⟩, .int .i64 0, .int .i64 0, .int .i64 0, .int .i64 0, .slice none 0 0, .int .i64 0, .slice none 0 0, .int .i64 0, .int .i64 0, .string ⟨#[]⟩, .int .i64 0, .string ⟨#[]⟩, .slice none 0 0] 37))) := (Gr.alloc w _).trans (Gr.alloc _ _)
  go_enter Tryz.func8, Tryz.ntmps8
  have x0 := HX.out 0 _ rfl
  have x1 := HX.out 1 _ rfl
  have x2 := HX.out 2 _ rfl
  have x3 := HX.out 3 _ rfl
  have x4 := HX.out 4 _ rfl
  have x5 := HX.out 5 _ rfl
  have x6 := HX.out 6 _ rfl
  have x7 := HX.out 7 _ rfl
  have x8 := HX.out 8 _ rfl
  have x9 := HX.out 9 _ rfl
  have x10 := HX.out 10 _ rfl
  have x11 := HX.out 11 _ rfl
  have x12 := HX.out 12 _ rfl
  have x13 := HX.out 13 _ rfl
  have x14 := HX.out 14 _ rfl
  have x15 := HX.out 15 _ rfl
  have x16 := HX.out 16 _ rfl
  go_wp2_with (refine wpList_store_row rfl 37 (.tmp 2) (.tmp 19) rfl (w.heap.size + 1) x.arr rfl rfl 37 #[.int .i64 0, .int .i64 0, .string ⟨#[]⟩, .string ⟨#[]⟩, .int .i64 0, .int .i64 0, .int .i64 0, .int .i64 0, .slice none 0 0, .int .i64 0, .slice none 0 0, .int .i64 0, .int .i64 0, .string ⟨#[]⟩, .int .i64 0, .string ⟨#[]⟩, .slice none 0 0] HZ.out lnSize rfl (lnOne _) ?_)
  have hN := setRow_heap _ (w.heap.size + 1) _ x.arr _ _ HZ.out
  exact bodyPost_ret (v := .agg x.arr) (results_cell_row Tryz.results8 _ _ (w.heap.size + 1) 37 _ (0, 0) _ rfl hN Tryz.underlying37 rfl lnSize) rfl ⟨rfl, below_row39 G0.out (by omega) _⟩
set_option maxRecDepth 100000 in
set_option maxHeartbeats 4000000 in
theorem backLn_any (x : LnV) (w : World) : Calls Tryz.prog 13 #[.agg x.arr] w fun e w' => e = .returned (.agg x.arr) ∧ Gr w w' := by
  have HX : Hid (∀ (i : Nat) (v : Value), x.cells[i]? = some v → ((w.alloc (.cells x.arr 37)).alloc (.cells #[.int .i64 0, .int .i64 0, .string ⟨#[]⟩, .string ⟨#[]⟩, .int .i64 0, .int .i64 0, .int .i64 0, .int .i64 0, .slice none 0 0, .int .i64 0, .slice none 0 0, .int .i64 0, .int .i64 0, .string ⟨#[]⟩, .int .i64 0, .string ⟨#[]⟩, .slice none 0 0] 29)).cell? ⟨w.heap.size, i, none⟩ = some v) := fun i v h => (((Blk.new w 37 x.arr).alloc _).cell i).trans h
  have HZ : Hid (((w.alloc (.cells x.arr 37)).alloc (.cells #[.int .i64 0, .int .i64 0, .string ⟨#[]⟩, .string ⟨#[]⟩, .int .i64 0, .int .i64 0, .int .i64 0, .int .i64 0, .slice none 0 0, .int .i64 0, .slice none 0 0, .int .i64 0, .int .i64 0, .string ⟨#[]⟩, .int .i64 0, .string ⟨#[]⟩, .slice none 0 0] 29)).heap[w.heap.size + 1]? = some (.cells #[.int .i64 0, .int .i64 0, .string ⟨#[]⟩, .string ⟨#[]⟩, .int .i64 0, .int .i64 0, .int .i64 0, .int .i64 0, .slice none 0 0, .int .i64 0, .slice none 0 0, .int .i64 0, .int .i64 0, .string ⟨#[]⟩, .int .i64 0, .string ⟨#[]⟩, .slice none 0 0] 29 (0, 0))) := by
    have := heap_alloc_new (w.alloc (.cells x.arr 37)) (.cells #[.int .i64 0, .int .i64 0, .string ⟨#[]⟩, .string ⟨#[]⟩, .int .i64 0, .int .i64 0, .int .i64 0, .int .i64 0, .slice none 0 0, .int .i64 0, .slice none 0 0, .int .i64 0, .int .i64 0, .string ⟨#[]⟩, .int .i64 0, .string ⟨#[]⟩, .slice none 0 0] 29)
    rw [World.size_alloc] at this
    exact this
  have G0 : Hid (Gr w ((w.alloc (.cells x.arr 37)).alloc (.cells #[.int .i64 0, .int .i64 0, .string ⟨#[]⟩, .string ⟨#[]⟩, .int .i64 0, .int .i64 0, .int .i64 0, .int .i64 0, .slice none 0 0, .int .i64 0, .slice none 0 0, .int .i64 0, .int .i64 0, .string ⟨#[]⟩, .int .i64 0, .string ⟨#[]⟩, .slice none 0 0] 29))) := (Gr.alloc w _).trans (Gr.alloc _ _)
  go_enter Tryz.func13, Tryz.ntmps13
  have x0 := HX.out 0 _ rfl
  have x1 := HX.out 1 _ rfl
  have x2 := HX.out 2 _ rfl
  have x3 := HX.out 3 _ rfl
  have x4 := HX.out 4 _ rfl
  have x5 := HX.out 5 _ rfl
  have x6 := HX.out 6 _ rfl
  have x7 := HX.out 7 _ rfl
  have x8 := HX.out 8 _ rfl
  have x9 := HX.out 9 _ rfl
  have x10 := HX.out 10 _ rfl
  have x11 := HX.out 11 _ rfl
  have x12 := HX.out 12 _ rfl
  have x13 := HX.out 13 _ rfl
  have x14 := HX.out 14 _ rfl
  have x15 := HX.out 15 _ rfl
  have x16 := HX.out 16 _ rfl
  go_wp2_with (refine wpList_store_row rfl 29 (.tmp 2) (.tmp 19) rfl (w.heap.size + 1) x.arr rfl rfl 29 #[.int .i64 0, .int .i64 0, .string ⟨#[]⟩, .string ⟨#[]⟩, .int .i64 0, .int .i64 0, .int .i64 0, .int .i64 0, .slice none 0 0, .int .i64 0, .slice none 0 0, .int .i64 0, .int .i64 0, .string ⟨#[]⟩, .int .i64 0, .string ⟨#[]⟩, .slice none 0 0] HZ.out refLnSize rfl (lnOne _) ?_)
  have hN := setRow_heap _ (w.heap.size + 1) _ x.arr _ _ HZ.out
  exact bodyPost_ret (v := .agg x.arr) (results_cell_row Tryz.results13 _ _ (w.heap.size + 1) 29 _ (0, 0) _ rfl hN Tryz.underlying29 rfl refLnSize) rfl ⟨rfl, below_row39 G0.out (by omega) _⟩
/-! ### short ones -/
def lightC (d : LnD) : Bool := decide (d.g.length ≤ 100) && decide (d.i.length ≤ 100)
def lightT (d : LnD) : Bool := lightO d.o && decide (d.p.length ≤ 80) && lightC d && decide (d.b.length ≤ 600)
set_option maxRecDepth 100000 in
set_option maxHeartbeats 1000000 in
theorem light40_one (d : LnD) (b : Nat) (w : World) (hB : Blk w b 27 [strc d.g, .int .i64 d.e, strc d.i]) :
    Calls Tryz.prog 22 #[.slice (some ⟨b, 0, none⟩) 1 1] w fun e w' => e = .returned (.bool (lightC d)) ∧ Gr w w' := by
  obtain ⟨g, hg⟩ : ∃ g : ByteArray, g = ⟨d.g.toArray⟩ := ⟨_, rfl⟩
  obtain ⟨i, hi⟩ : ∃ i : ByteArray, i = ⟨d.i.toArray⟩ := ⟨_, rfl⟩
  have hgz : g.size = d.g.length := by rw [hg]; exact size_of' _
  have hiz : i.size = d.i.length := by rw [hi]; exact size_of' _
  have HC1 : Hid (w.cell? ⟨b, 0, none⟩ = some (.string g)) := by show _ = _; rw [hB.cell, hg]; rfl
  have HC2 : Hid (w.cell? ⟨b, 2, none⟩ = some (.string i)) := by show _ = _; rw [hB.cell, hi]; rfl
  obtain ⟨r, hr⟩ : ∃ r, r = lightC d := ⟨_, rfl⟩
  rw [← hr]
  have HR : Hid (r = (decide (g.size ≤ 100) && decide (i.size ≤ 100))) := by
    show _ = _
    rw [hr, hgz, hiz]; rfl
  clear hr hB hg hi hgz hiz
  go_enter Tryz.func22, Tryz.ntmps22
  go_wp2
  go_loopw [3] (fun v wr => ∃ k : Nat, k ≤ 1 ∧ v = .int .i64 k ∧ wr = w ∧ (k = 1 → r = true)) (fun v _ => 1 - (intOf v).toNat)
  case atStart => exact ⟨0, by omega, rfl, rfl, by omega⟩
  case round =>
    obtain ⟨k, hk, rfl, rfl, hdone⟩ := hrel
    by_cases hlt : k < 1
    · obtain rfl : k = 0 := by omega
      have c1 := HC1.out; have c2 := HC2.out
      have t0 : decide (((0 : Nat) : Int) < 1) = true := by decide
      by_cases h1 : 100 < g.size
      · have t1 : decide ((100 : Int) < (g.size : Int)) = true := decide_eq_true (by omega)
        have HF : Hid (r = false) := by show _ = _; rw [HR.out, decide_eq_false (by omega)]; rfl
        go_wp2_with fail
        go_ret
        exact ⟨by rw [HF.out]; rfl, Gr.refl _⟩
      · have t1 : decide ((100 : Int) < (g.size : Int)) = false := decide_eq_false (by omega)
        by_cases h2 : 100 < i.size
        · have t2 : decide ((100 : Int) < (i.size : Int)) = true := decide_eq_true (by omega)
          have HF : Hid (r = false) := by show _ = _; rw [HR.out, decide_eq_true (by omega : g.size ≤ 100), decide_eq_false (by omega)]; rfl
          go_wp2_with fail
          go_ret
          exact ⟨by rw [HF.out]; rfl, Gr.refl _⟩
        · have t2 : decide ((100 : Int) < (i.size : Int)) = false := decide_eq_false (by omega)
          have HF : Hid (r = true) := by show _ = _; rw [HR.out, decide_eq_true (by omega : g.size ≤ 100), decide_eq_true (by omega : i.size ≤ 100)]; rfl
          go_wp2_with fail
          refine ⟨⟨1, by omega, by first | trivial | rfl, by first | trivial | rfl, fun _ => HF.out⟩, ?_⟩
          show 1 - (1 : Int).toNat < 1 - (0 : Int).toNat
          omega
    · obtain rfl : k = 1 := by omega
      have t0 : decide (((1 : Nat) : Int) < 1) = false := by decide
      have HF : Hid (r = true) := hdone rfl
      clear hdone
      go_wp2_with fail
      go_ret
      exact ⟨by rw [HF.out]; rfl, Gr.refl _⟩
set_option maxRecDepth 100000 in
set_option maxHeartbeats 4000000 in
theorem light41_any (x : LnV) (w : World) (hx : LnAt w x) : Calls Tryz.prog 5 #[.agg x.arr] w fun e w' => e = .returned (.bool (lightT x.d)) ∧ Gr w w' := by
  have HX : Hid (∀ wq, Gr (w.alloc (.cells x.arr 29)) wq → ∀ (i : Nat) (v : Value), x.cells[i]? = some v → wq.cell? ⟨w.heap.size, i, none⟩ = some v) := fun wq g i v h => (((Blk.new w 29 x.arr).mono g).cell i).trans h
  have G0 : Hid (Gr w (w.alloc (.cells x.arr 29))) := Gr.alloc w _
  obtain ⟨W0, hW0⟩ : ∃ W0, W0 = w.alloc (.cells x.arr 29) := ⟨_, rfl⟩
  have z0 : W0.heap.size = w.heap.size + 1 := by rw [hW0, World.size_alloc]
  have HL7 : Hid (Calls Tryz.prog 21 #[.slice (some ⟨w.heap.size + 1, 0, none⟩) 1 1] (W0.alloc (.cells (opC x.d.o x.A x.d.o.x.length x.c) 24)) fun e w' => e = .returned (.bool (lightO x.d.o)) ∧ Gr (W0.alloc (.cells (opC x.d.o x.A x.d.o.x.length x.c) 24)) w') := by
    have hb := Blk.new W0 24 (opC x.d.o x.A x.d.o.x.length x.c)
    rw [z0] at hb
    exact light37_one x.d.o x.A x.d.o.x.length x.c (w.heap.size + 1) _ hb (hx.o.mono (by rw [hW0]; exact G0.out.trans (Gr.alloc _ _)))
  have G1 : Hid (Gr W0 (W0.alloc (.cells (opC x.d.o x.A x.d.o.x.length x.c) 24))) := Gr.alloc _ _
  have HL4 : Hid (∀ wr : World, Calls Tryz.prog 22 #[.slice (some ⟨wr.heap.size, 0, none⟩) 1 1] (wr.alloc (.cells #[strc x.d.g, .int .i64 x.d.e, strc x.d.i] 27)) fun e w' => e = .returned (.bool (lightC x.d)) ∧ Gr (wr.alloc (.cells #[strc x.d.g, .int .i64 x.d.e, strc x.d.i] 27)) w') := fun wr => light40_one x.d wr.heap.size _ (Blk.new wr 27 #[strc x.d.g, .int .i64 x.d.e, strc x.d.i])
  obtain ⟨r, hr⟩ : ∃ r, r = lightT x.d := ⟨_, rfl⟩
  have HR : Hid (r = (lightO x.d.o && decide (x.d.p.length ≤ 80) && lightC x.d && decide (x.d.b.length ≤ 600))) := hr
  rw [← hr]
  clear hr hx z0
  subst hW0
  unfold opC at *
  go_enter Tryz.func5, Tryz.ntmps5
  have x1 := HX.out _ (Gr.refl _) 1 _ rfl
  have x2 := HX.out _ (Gr.refl _) 2 _ rfl
  have x3 := HX.out _ (Gr.refl _) 3 _ rfl
  have x4 := HX.out _ (Gr.refl _) 4 _ rfl
  have x5 := HX.out _ (Gr.refl _) 5 _ rfl
  have x6 := HX.out _ (Gr.refl _) 6 _ rfl
  have x7 := HX.out _ (Gr.refl _) 7 _ rfl
  have x8 := HX.out _ (Gr.refl _) 8 _ rfl
  go_wp2_with fail
  clear x1 x2 x3 x4 x5 x6 x7 x8
  refine HL7.out.mono ?_
  rintro e w2 ⟨rfl, g2⟩
  have G2 := Lib.hid (G1.out.trans g2); clear g2
  have x10 := HX.out _ G2.out 10 _ rfl
  have x13 := HX.out _ G2.out 13 _ rfl
  have x14 := HX.out _ G2.out 14 _ rfl
  have x15 := HX.out _ G2.out 15 _ rfl
  cases h1 : lightO x.d.o with
  | false =>
    have HF : Hid (r = false) := by show _ = _; rw [HR.out, h1]; rfl
    go_wp2_with fail
    go_ret
    exact ⟨by rw [HF.out]; rfl, G0.out.trans G2.out⟩
  | true =>
    by_cases h2 : x.d.p.length ≤ 80
    · have t2 : decide ((x.d.p.length : Int) ≤ 80) = true := decide_eq_true (by omega)
      go_wp2_with fail
      refine (HL4.out _).mono ?_
      rintro e w3 ⟨rfl, g3⟩
      have G3 := Lib.hid ((G2.out.trans (Gr.alloc _ _)).trans g3); clear g3
      have x16 := HX.out _ G3.out 16 _ rfl
      cases h3 : lightC x.d with
      | false =>
        have HF : Hid (r = false) := by show _ = _; rw [HR.out, h3, Bool.and_false]; rfl
        go_wp2_with fail
        go_ret
        exact ⟨by rw [HF.out]; rfl, G0.out.trans G3.out⟩
      | true =>
        have HF : Hid (r = decide ((x.d.b.length : Int) ≤ 600)) := by show _ = _; rw [HR.out, h1, h3, decide_eq_true h2]; simp; omega
        go_wp2_with fail
        go_ret
        exact ⟨by rw [HF.out]; rfl, G0.out.trans G3.out⟩
    · have t2 : decide ((x.d.p.length : Int) ≤ 80) = false := decide_eq_false (by omega)
      have HF : Hid (r = false) := by show _ = _; rw [HR.out, decide_eq_false h2, Bool.and_false]; rfl
      go_wp2_with fail
      go_ret
      exact ⟨by rw [HF.out]; rfl, G0.out.trans G2.out⟩
/-! ### the example -/
def crashB : List UInt8 := [99, 114, 97, 115, 104, 32, 49, 48, 49, 32, 48, 32, 57]
theorem parse_crash : (parseT crashB).2 = 0 ∧ (parseT crashB).1.k = 3 ∧ (parseT crashB).1.p = [1, 0, 1] ∧ (parseT crashB).1.a = 9 := by decide +kernel
set_option maxRecDepth 100000 in
set_option maxHeartbeats 4000000 in
theorem alive41_any (w : World) (hT : Pow10 w) (hM : MLen w) : Calls Tryz.prog 6 #[] w fun e w' => e = .returned (.bool true) ∧ Gr w w' := by
  have HP : Hid (Calls Tryz.prog 10 #[.string ⟨#[99, 114, 97, 115, 104, 32, 49, 48, 49, 32, 48, 32, 57]⟩] w (RetLn w (parseT crashB))) := scParse_any crashB w (by decide) hM hT
  obtain ⟨hf0, hk0, hp0, ha0⟩ := parse_crash
  obtain ⟨pc, hpc⟩ : ∃ pc, pc = parseT crashB := ⟨_, rfl⟩
  rw [← hpc] at HP hf0 hk0 hp0 ha0
  clear hpc
  obtain ⟨pd, pf⟩ := pc
  simp only at hf0 hk0 hp0 ha0
  subst hf0
  have HK0 := Lib.hid hk0; have HP0 := Lib.hid hp0; have HA0 := Lib.hid ha0
  clear hT hM hk0 hp0 ha0
  go_enter Tryz.func6, Tryz.ntmps6
  go_wp2_with fail
  refine HP.out.mono ?_
  rintro e w5 ⟨y, rfl, hyd, hya, g5, _⟩
  have hyd : y.d = pd := hyd
  have HYB := setRow_heap (w5.alloc (.cells #[.int .i64 0, .int .i64 0, .string ⟨#[]⟩, .string ⟨#[]⟩, .int .i64 0, .int .i64 0, .int .i64 0, .int .i64 0, .slice none 0 0, .int .i64 0, .slice none 0 0, .int .i64 0, .int .i64 0, .string ⟨#[]⟩, .int .i64 0, .string ⟨#[]⟩, .slice none 0 0] 37)) w5.heap.size _ y.arr _ _ (heap_alloc_new w5 _)
  have GS0 : Gr w5 ((w5.alloc (.cells #[.int .i64 0, .int .i64 0, .string ⟨#[]⟩, .string ⟨#[]⟩, .int .i64 0, .int .i64 0, .int .i64 0, .int .i64 0, .slice none 0 0, .int .i64 0, .slice none 0 0, .int .i64 0, .int .i64 0, .string ⟨#[]⟩, .int .i64 0, .string ⟨#[]⟩, .slice none 0 0] 37)).setRow w5.heap.size y.arr) := below_row39 ((Below.refl _ _).alloc (Nat.le_refl _) _) (Nat.le_refl _) _
  have GX := Lib.hid (g5.trans GS0)
  have hp : Is ((w5.alloc (.cells #[.int .i64 0, .int .i64 0, .string ⟨#[]⟩, .string ⟨#[]⟩, .int .i64 0, .int .i64 0, .int .i64 0, .int .i64 0, .slice none 0 0, .int .i64 0, .slice none 0 0, .int .i64 0, .int .i64 0, .string ⟨#[]⟩, .int .i64 0, .string ⟨#[]⟩, .slice none 0 0] 37)).setRow w5.heap.size y.arr) y.B 3 y.q [1, 0, 1] := by
    have h := hya.p.mono GS0
    rw [hyd, HP0.out] at h
    exact h
  have HY : Hid (∀ wq, Gr ((w5.alloc (.cells #[.int .i64 0, .int .i64 0, .string ⟨#[]⟩, .string ⟨#[]⟩, .int .i64 0, .int .i64 0, .int .i64 0, .int .i64 0, .slice none 0 0, .int .i64 0, .slice none 0 0, .int .i64 0, .int .i64 0, .string ⟨#[]⟩, .int .i64 0, .string ⟨#[]⟩, .slice none 0 0] 37)).setRow w5.heap.size y.arr) wq → ∀ (i : Nat) (v : Value), y.cells[i]? = some v → wq.cell? ⟨w5.heap.size, i, none⟩ = some v) := fun wq g i v h => (((show Blk _ w5.heap.size 37 y.cells from HYB).mono g).cell i).trans h
  have e0 := HY.out _ (Gr.refl _) 0 (.int .i64 3) (by show some (Value.int .i64 y.d.k) = _; rw [hyd, HK0.out])
  have e10 := HY.out _ (Gr.refl _) 10 (.slice y.B 3 y.q) (by show some (Value.slice y.B y.d.p.length y.q) = _; rw [hyd, HP0.out]; rfl)
  have hy12 : y.cells[12]? = some (.int .i64 9) := by show some (Value.int .i64 y.d.a) = _; rw [hyd, HA0.out]
  clear HYB GS0 g5 hya hyd
  go_wp2_with (refine wpList_store_row rfl 37 (.tmp 1) (.tmp 5) rfl w5.heap.size y.arr rfl rfl 37 #[.int .i64 0, .int .i64 0, .string ⟨#[]⟩, .string ⟨#[]⟩, .int .i64 0, .int .i64 0, .int .i64 0, .int .i64 0, .slice none 0 0, .int .i64 0, .slice none 0 0, .int .i64 0, .int .i64 0, .string ⟨#[]⟩, .int .i64 0, .string ⟨#[]⟩, .slice none 0 0] (by exact heap_alloc_new w5 _) lnSize rfl (lnOne _) ?_)
  obtain ⟨W, hW⟩ : ∃ W, W = ((w5.alloc (.cells #[.int .i64 0, .int .i64 0, .string ⟨#[]⟩, .string ⟨#[]⟩, .int .i64 0, .int .i64 0, .int .i64 0, .int .i64 0, .slice none 0 0, .int .i64 0, .slice none 0 0, .int .i64 0, .int .i64 0, .string ⟨#[]⟩, .int .i64 0, .string ⟨#[]⟩, .slice none 0 0] 37)).setRow w5.heap.size y.arr) := ⟨_, rfl⟩
  have hsz : W.heap.size = w5.heap.size + 1 := by rw [hW]; simp [World.setRow]
  rw [← hW] at GX HY hp ⊢
  have hb := Blk.new W 3 #[.int .i64 1, .int .i64 0, .int .i64 1]
  rw [hsz] at hb
  have GA : Hid (Gr W (W.alloc (.cells #[.int .i64 1, .int .i64 0, .int .i64 1] 3))) := Gr.alloc W _
  have G3 := Lib.hid (GX.out.trans GA.out)
  refine (ints_any _ _ _ _ _ _ _ _ _ (hp.mono GA.out) (⟨rfl, Nat.le_refl _, by decide, fun _ => ⟨_, 0, rfl, fun j u hu => by rw [Nat.zero_add]; exact (hb.cell j).trans hu⟩⟩ : Is _ (some ⟨w5.heap.size + 1, 0, none⟩) 3 3 [1, 0, 1])).mono ?_
  rintro e w6 ⟨rfl, k6, rfl⟩
  have e12 := HY.out _ (belowN GA.out k6) 12 _ hy12
  have G6 := Lib.hid (GX.out.trans (belowN GA.out k6))
  clear hb hW e0 e10
  go_wp2_with fail
  go_ret
  exact ⟨rfl, G6.out⟩
end Go.Proofs.YtadenlhnfkccaaaGreatDoor

/- A slice of one struct, built: the struct's cells stay a term. No condition. -/
namespace Go.Proofs.YtadenlhnfkccaaaGreatDoor
open Go.RowKit
set_option linter.unusedVariables false
set_option linter.unusedSimpArgs false
theorem wpList_build1 {P : Program} {ops : Array Oper} {rest : List Oper} {o : Oper} {a : Act} {w : World} {Q : Exit → Act → World → Prop} (hg : o.guard = none) (t e : TypeId) (x : Operand) (ho : o.op = .buildSlice t 1 #[(0, x)])
    (cs : Array Value) (hx : a.eval x = .agg cs) (hu : P.underlying t = some (.slice e)) (hsz : (P.info? e).map (·.size) = some cs.size) (hz : ((P.info? e).bind (·.zero)).isSome = true) (hpos : 0 < cs.size) (hsmall : cs.size ≤ 2 ^ 24)
    (h : wpList P ops Q rest (a.put o.dst (.slice (some ⟨w.heap.size, 0, none⟩) 1 1)) (w.alloc (.cells cs e))) : wpList P ops Q (o :: rest) a w := by
  cases hie : P.info? e with
  | none => simp [hie] at hsz
  | some ie =>
    simp only [hie, Option.map_some, Option.some.injEq, Option.bind_some] at hsz hz
    obtain ⟨z, hzz⟩ := Option.isSome_iff_exists.1 hz
    refine wpList_buildSlice hg t e 1 #[(0, x)] ho cs ie z hu hie hzz (by rw [hsz]; omega) (by rw [hsz]; omega) ?_ h
    have hw := Great.fill_whole (s := ie.size) (by omega) [.agg cs] ((Array.range (1 * ie.size)).map (z.cells[· % z.cells.size]!)) (fun v hv => by
      simp only [List.mem_singleton] at hv
      subst hv
      exact hsz.symm) (by simp)
    simp only [hx] at hw ⊢
    simpa [Value.cells, hx] using hw
end Go.Proofs.YtadenlhnfkccaaaGreatDoor

/- Scripts: rows of lines turned, and held against others. No condition. -/
namespace Go.Proofs.YtadenlhnfkccaaaGreatDoor
open Go.RowKit
set_option linter.unusedVariables false
set_option linter.unusedSimpArgs false
theorem plain_load_mid {P : Program} {o : Oper} {a : Act} {w : World} (ty : TypeId) (x : Operand) (ho : o.op = .load ty x) (b of : Nat) (hx : a.eval x = .pointer (some ⟨b, of, none⟩)) (cs : List Value) (d : TypeDesc) (hc : w.rangeAt b of cs)
    (hu : P.underlying ty = some d) (hd : d.isRow = true) (hi : (P.info? ty).map (·.size) = some cs.length) : plainAt P o a w (.agg cs.toArray) := by
  unfold plainAt execOp
  simp only [ho, hx, Instr.loadAt, Instr.sureAddr, Sem.run_bind, Sem.run_pure, Result.andThen_ok, run_loadVar_mid w b of ty cs d hc hu hd hi]
  simp
theorem tLinesR : ElemT Tryz.prog 48 29 (.agg lnV0.arr) 17 216 := ⟨Tryz.underlying48, by kernel_rfl, rfl, by decide, by decide⟩
theorem LnV.sz (x : LnV) : x.arr.size = 17 := rfl
theorem lns_snoc {L : List LnV} {k : Nat} (h : k < L.length) : (L.take (k + 1)).flatMap LnV.cells = (L.take k).flatMap LnV.cells ++ (L[k]).cells := by
  rw [List.take_succ_eq_append_getElem h, List.flatMap_append]
  simp
set_option maxRecDepth 100000 in
set_option maxHeartbeats 4000000 in
theorem rowsLn_any (A : Option Addr) (n c : Nat) (L : List LnV) (w : World) (hL : Lns w A n c L) (hn : n ≤ 3000) :
    Calls Tryz.prog 20 #[.slice A n c] w fun e w' => ∃ A' c', e = .returned (.slice A' n c') ∧ Lns w' A' n c' L ∧ Gr w w' := by
  have HLN := Lib.hid hL
  have hmax := hL.2.1.max
  have hcap := hL.2.1.cap
  have hln := hL.1
  clear hL
  have HBK : Hid (∀ (x : LnV) wr, Calls Tryz.prog 13 #[.agg x.arr] wr fun e w' => e = .returned (.agg x.arr) ∧ Gr wr w') := fun x wr => backLn_any x wr
  go_enter Tryz.func20, Tryz.ntmps20
  go_wp2_with fail
  go_loopw [3, 4] (fun v i wr => ∃ k : Nat, k ≤ n ∧ i = .int .i64 k ∧ Own w wr 29 17 v k ((L.take k).flatMap LnV.cells)) (fun _ i _ => n - (intOf i).toNat)
  case atStart => exact ⟨0, Nat.zero_le _, rfl, Own.nil _ _ _⟩
  case round =>
    obtain ⟨k, hk, rfl, own⟩ := hrel
    have OW := Lib.hid own
    have GW : Hid (Gr w wr) := own.below
    obtain ⟨A1, c1, rfl, sl1⟩ := own.slice
    have SL1 := Lib.hid sl1
    clear own sl1
    by_cases hlt : k < n
    · obtain ⟨b, o, rfl, hc⟩ := (HLN.out.gr GW.out).at (by omega)
      have hkl : k < L.length := by omega
      have HRG := Lib.hid (hc k hkl)
      have HSN := Lib.hid (lns_snoc hkl)
      clear hc
      generalize L[k] = x at *
      go_wp2_with (refine wpList_load_mid rfl 37 (.tmp 14) rfl b (o + k * 17) rfl x.cells _ HRG.out Tryz.underlying37 rfl lnSize ?_)
      refine (HBK.out x _).mono ?_
      rintro e w2 ⟨rfl, g2⟩
      have OW2 := Lib.hid (OW.out.mono g2)
      clear g2
      go_wp2_with (first
        | (refine wpList_build1 rfl 48 29 (.tmp 16) rfl x.arr rfl Tryz.underlying48 refLnSize (by kernel_rfl) (by rw [LnV.sz]; omega) (by rw [LnV.sz]; omega) ?_)
        | (at_builtin; go_loud (refine wpList_pushG rfl (.tmp 11) (.tmp 17) 48 rfl tLinesR rfl OW2.out x.arr rfl rfl x.one (by omega) ?_); intro v5 w5 o5 k5; obtain ⟨A5, c5, rfl, _⟩ := o5.slice; have O5 : Hid (Own w w5 29 17 (.slice A5 (k + 1) c5) (k + 1) ((L.take (k + 1)).flatMap LnV.cells)) := (by show Own _ _ _ _ _ _ _; rw [HSN.out]; exact o5); clear o5 k5))
      refine ⟨⟨k + 1, by omega, by first | trivial | go_num, O5.out⟩, ?_⟩
      show n - ((k : Int) + 1).toNat < n - (k : Int).toNat
      omega
    · obtain rfl : k = n := by omega
      have SF : Hid (Sl wr A1 k c1 17 (L.flatMap LnV.cells)) := by
        have h := SL1.out
        rw [List.take_of_length_le (by omega)] at h
        exact h
      go_wp2_with fail
      go_ret
      exact ⟨_, _, rfl, ⟨HLN.out.1, SF.out, fun x hx => (HLN.out.2.2 x hx).gr GW.out⟩, GW.out⟩
theorem rowsT_go {L M : List LnD} (hl : L.length = M.length) : ∀ k, k ≤ L.length → ((L.take k).zip (M.take k)).all (fun p => sameT p.1 p.2) = true → k = L.length → rowsT L M = true := by
  intro k hk h e
  subst e
  rw [List.take_length, hl, List.take_length] at h
  unfold rowsT
  rw [hl, h]
  simp
theorem rowsT_step {L M : List LnD} {k : Nat} (h1 : k < L.length) (h2 : k < M.length) : ((L.take (k + 1)).zip (M.take (k + 1))).all (fun p => sameT p.1 p.2) = (((L.take k).zip (M.take k)).all (fun p => sameT p.1 p.2) && sameT L[k] M[k]) := by
  rw [List.take_succ_eq_append_getElem h1, List.take_succ_eq_append_getElem h2, List.zip_append (by simp; omega), List.all_append]
  simp
theorem rowsT_bad {L M : List LnD} (k : Nat) (h1 : k < L.length) (h2 : k < M.length) (h : sameT L[k] M[k] = false) : rowsT L M = false := by
  unfold rowsT
  have : (L.zip M).all (fun p => sameT p.1 p.2) = false := by
    rw [List.all_eq_false]
    have hz : k < (L.zip M).length := by rw [List.length_zip]; omega
    refine ⟨(L.zip M)[k], List.getElem_mem hz, ?_⟩
    rw [List.getElem_zip]
    rw [h]; decide
  rw [this, Bool.and_false]
theorem rowsT_len {L M : List LnD} (h : L.length ≠ M.length) : rowsT L M = false := by
  unfold rowsT
  rw [beq_false_of_ne h, Bool.false_and]
set_option maxRecDepth 100000 in
set_option maxHeartbeats 4000000 in
theorem refRows41_any (A B : Option Addr) (n c m d : Nat) (L M : List LnV) (w : World) (hL : Lns w A n c L) (hM : Lns w B m d M) :
    Calls Tryz.prog 19 #[.slice A n c, .slice B m d] w fun e w' => e = .returned (.bool (rowsT (L.map LnV.d) (M.map LnV.d))) ∧ Gr w w' := by
  have HL := Lib.hid hL
  have HM := Lib.hid hM
  have hmax := hL.2.1.max
  have hcap := hL.2.1.cap
  have hln := hL.1
  have hmax2 := hM.2.1.max
  have hcap2 := hM.2.1.cap
  have hmn := hM.1
  have HSM : Hid (∀ x ∈ L, ∀ y ∈ M, ∀ wr, Gr w wr → Calls Tryz.prog 12 #[.agg x.arr, .agg y.arr] wr fun e w' => e = .returned (.bool (sameT x.d y.d)) ∧ Gr wr w') := fun x hx y hy wr g => refSame41_any x y wr ((hL.2.2 x hx).gr g) ((hM.2.2 y hy).gr g)
  clear hL hM
  go_enter Tryz.func19, Tryz.ntmps19
  by_cases hnm : n = m
  · have t1 : ((n : Int) != (m : Int)) = false := by rw [hnm]; simp
    subst hnm
    go_wp2_with fail
    go_loopw [5] (fun i wr => ∃ k : Nat, k ≤ n ∧ i = .int .i64 k ∧ Gr w wr ∧ (((L.map LnV.d).take k).zip ((M.map LnV.d).take k)).all (fun p => sameT p.1 p.2) = true) (fun i _ => n - (intOf i).toNat)
    case atStart => exact ⟨0, Nat.zero_le _, rfl, Gr.refl _, rfl⟩
    case round =>
      obtain ⟨k, hk, rfl, g, ha⟩ := hrel
      have GW := Lib.hid g; have HA := Lib.hid ha
      clear g ha
      by_cases hlt : k < n
      · obtain ⟨b, o, rfl, hc⟩ := HL.out.at (by omega)
        obtain ⟨b2, o2, rfl, hc2⟩ := HM.out.at (by omega)
        have hkl : k < L.length := by omega
        have hkm : k < M.length := by omega
        have hkl' : k < (L.map LnV.d).length := by rw [List.length_map]; omega
        have hkm' : k < (M.map LnV.d).length := by rw [List.length_map]; omega
        have HR1 : Hid (∀ wq, Gr w wq → wq.rangeAt b (o + k * 17) (L[k]).cells) := fun wq g => by
          obtain ⟨b', o', e, h⟩ := (HL.out.gr g).at (by omega)
          injection e with e; injection e with e1 e2; subst e1 e2
          exact h k hkl
        have HR2 : Hid (∀ wq, Gr w wq → wq.rangeAt b2 (o2 + k * 17) (M[k]).cells) := fun wq g => by
          obtain ⟨b', o', e, h⟩ := (HM.out.gr g).at (by omega)
          injection e with e; injection e with e1 e2; subst e1 e2
          exact h k hkm
        have HSC := Lib.hid (HSM.out _ (List.getElem_mem hkl) _ (List.getElem_mem hkm))
        have HST := Lib.hid (rowsT_step hkl' hkm')
        have HBAD := Lib.hid (rowsT_bad k hkl' hkm')
        simp only [List.getElem_map] at HST HBAD
        clear hc hc2
        generalize L[k] = x at *
        generalize M[k] = y at *
        have hk2 : (k : Int) < (n : Int) := by omega
        have GD : Hid (Gr w wr.drew) := GW.out.trans (Gr.drew _)
        go_wp2_with fail
        refine wp_region_grow (by kernel_rfl) [0, 0, 3, 7, 0, 0, 48, 112, 255, 511] [.p 0, .p 1, .p 2, .p 4, .p 5, .p 6, .q 3, .q 7, .c 8, .p 9] (by kernel_rfl) (trivial) ?_
        refine wpG_pe rfl rfl ?_
        apply Exists.intro
        refine ⟨fun wq => ?_, ?_⟩
        · unfold plainAt
          go_simp
          first | exact rfl | exact ⟨rfl, rfl⟩
        go_simp
        refine wpG_pe rfl rfl ?_
        apply Exists.intro
        refine ⟨fun wq => ?_, ?_⟩
        · unfold plainAt
          go_simp
          first | exact rfl | exact ⟨rfl, rfl⟩
        go_simp
        refine wpG_pe rfl rfl ?_
        apply Exists.intro
        refine ⟨fun wq => ?_, ?_⟩
        · unfold plainAt
          go_simp
          first | exact rfl | exact ⟨rfl, rfl⟩
        go_simp
        refine wpG_pe rfl rfl ?_
        apply Exists.intro
        refine ⟨fun wq => ?_, ?_⟩
        · unfold plainAt
          go_simp
          first | exact rfl | exact ⟨rfl, rfl⟩
        go_simp
        refine wpG_pe rfl rfl ?_
        apply Exists.intro
        refine ⟨fun wq => ?_, ?_⟩
        · unfold plainAt
          go_simp
          first | exact rfl | exact ⟨rfl, rfl⟩
        go_simp
        refine wpG_pe rfl rfl ?_
        apply Exists.intro
        refine ⟨fun wq => ?_, ?_⟩
        · unfold plainAt
          go_simp
          first | exact rfl | exact ⟨rfl, rfl⟩
        go_simp
        refine wpG_q rfl rfl (.agg x.cells.toArray) (fun wq hq => plain_load_mid 29 (.tmp 19) rfl b (o + k * 17) rfl x.cells _ (HR1.out wq (GD.out.trans hq)) Tryz.underlying29 rfl refLnSize) ?_
        go_simp
        refine wpG_q rfl rfl (.agg y.cells.toArray) (fun wq hq => plain_load_mid 29 (.tmp 23) rfl b2 (o2 + k * 17) rfl y.cells _ (HR2.out wq (GD.out.trans hq)) Tryz.underlying29 rfl refLnSize) ?_
        go_simp
        cases hs : sameT x.d y.d with
        | true =>
          have HA2 : Hid ((((L.map LnV.d).take (k + 1)).zip ((M.map LnV.d).take (k + 1))).all (fun p => sameT p.1 p.2) = true) := by show _ = _; rw [HST.out, HA.out, hs]; rfl
          rw [hs] at HSC
          clear hs
          refine wpG_c rfl rfl ?_
          intro wc gc K hK
          go_simp
          go_at_call 12
          refine (HSC.out wc (GD.out.trans gc)).mono ?_
          rintro e wn ⟨rfl, gf⟩
          refine hK _ _ gf ?_; have GF := Lib.hid (GD.out.trans (gc.trans gf)); clear gc gf hK
          go_simp
          refine wpG_pe rfl rfl ?_
          apply Exists.intro
          refine ⟨fun wq => ?_, ?_⟩
          · unfold plainAt
            go_simp
            first | exact rfl | exact ⟨rfl, rfl⟩
          go_simp
          refine wpG_nil ?_
          intro wz gz
          have GZ := Lib.hid (GF.out.trans gz); clear gz
          go_wp2_with fail
          refine ⟨⟨k + 1, by omega, by first | trivial | go_num, GZ.out, HA2.out⟩, ?_⟩
          show n - ((k : Int) + 1).toNat < n - (k : Int).toNat
          omega
        | false =>
          have HF := Lib.hid (HBAD.out hs)
          rw [hs] at HSC
          clear hs
          refine wpG_c rfl rfl ?_
          intro wc gc K hK
          go_simp
          go_at_call 12
          refine (HSC.out wc (GD.out.trans gc)).mono ?_
          rintro e wn ⟨rfl, gf⟩
          refine hK _ _ gf ?_; have GF := Lib.hid (GD.out.trans (gc.trans gf)); clear gc gf hK
          go_simp
          refine wpG_pe rfl rfl ?_
          apply Exists.intro
          refine ⟨fun wq => ?_, ?_⟩
          · unfold plainAt
            go_simp
            first | exact rfl | exact ⟨rfl, rfl⟩
          go_simp
          refine wpG_nil ?_
          intro wz gz
          have GZ := Lib.hid (GF.out.trans gz); clear gz
          go_wp2_with fail
          go_ret
          exact ⟨by rw [HF.out]; rfl, GZ.out⟩
      · obtain rfl : k = n := by omega
        have HF : Hid (rowsT (L.map LnV.d) (M.map LnV.d) = true) := rowsT_go (by simp; omega) k (by simp; omega) HA.out (by simp; omega)
        go_wp2_with fail
        go_ret
        exact ⟨by rw [HF.out]; rfl, GW.out⟩
  · have t1 : ((n : Int) != (m : Int)) = true := bne_iff_ne.2 (by omega)
    have HF : Hid (rowsT (L.map LnV.d) (M.map LnV.d) = false) := rowsT_len (by simp; omega)
    go_wp2_with fail
    go_ret
    exact ⟨by rw [HF.out]; rfl, Gr.refl _⟩
end Go.Proofs.YtadenlhnfkccaaaGreatDoor

/- What the rows' frames tell of an argument that came in, in the words of ObBase. No condition. -/
namespace Go.Proofs.YtadenlhnfkccaaaGreatDoor
open Go.RowKit Go.ChangeShapes Go.WideShapes Go.Deep
set_option linter.unusedVariables false

section
variable {H : Type} {enc : TypeId × Value → H} {P : Program} {W : World}

/-- A slice that came in, element by element: each reads as some x, in its own cells 'f x'. -/
theorem open_elems {α : Type} [Inhabited α] {t e : TypeId} {C fuel : Nat} {y : DataW H × List MemPlace} {a : Option Addr} {len cap : Nat} (ht : P.underlying t = some (.slice e)) (hC : P.cellsOf e = C) (hpos : 0 < C)
    (h : DataW.trod enc P W 0 (fun _ => true) true fuel t [.slice a len cap] = some y)
    (f : α → List Value) (hf : ∀ x, (f x).length = C) (good : α → Prop)
    (hel : ∀ n cs z, cs.length = C → DataW.trod enc P W 0 (fun _ => true) true n e cs = some z → ∃ x, cs = f x ∧ good x) :
    ∃ L : List α, L.length = len ∧ Sl W a len cap C (L.flatMap f) ∧ ∀ x ∈ L, good x := by
  rcases open_slice ht h with ⟨hcs, _⟩ | ⟨ad, len', cap', m, n, D, Pl, hcs, _, hl, hm, hmm, _, hx⟩
  · simp at hcs
    obtain ⟨rfl, rfl, rfl⟩ := hcs
    exact ⟨[], rfl, Sl.nil _ _, by simp⟩
  · simp at hcs
    obtain ⟨rfl, rfl, rfl⟩ := hcs
    rw [hC] at hx
    obtain ⟨V, hV⟩ := choose_lt (α := α) (n := len) (p := fun i x => good x ∧ ∀ j, j < C → W.cell? (ad.add (i * C + j)) = (f x)[j]?) (fun i hi => by
      obtain ⟨cs', h1, h2⟩ := hx i (by simp at hmm; omega)
      obtain ⟨_, hlen, hat⟩ := World.cells?_some h1
      obtain ⟨x, rfl, hg⟩ := hel _ _ _ hlen h2
      exact ⟨x, hg, fun j hj => by rw [← Go.Deep.add_add]; exact hat j hj⟩)
    refine ⟨(List.range len).map V, by simp, ⟨by rw [flat_length hf]; simp, hl, hm, fun hn => ?_⟩, ?_⟩
    · have h0 := (hV 0 hn).2 0 hpos
      rw [Nat.zero_mul, Nat.zero_add, List.getElem?_eq_getElem (by rw [hf]; exact hpos)] at h0
      obtain ⟨b, o, sp⟩ := ad
      have hsp : sp = none := by simpa [Addr.add] using World.cell?_spot h0
      subst hsp
      refine ⟨b, o, rfl, fun j u hu => ?_⟩
      have hj : j < len * C := by
        have := (List.getElem?_eq_some_iff.1 hu).1
        rw [flat_length hf] at this
        simpa using this
      have hdiv : j / C < len := by rw [Nat.div_lt_iff_lt_mul hpos]; exact hj
      have hmod := Nat.mod_lt j hpos
      have e : j / C * C + j % C = j := Nat.div_add_mod' j C
      rw [← e, flat_at hf _ (j / C) (j % C) hmod (V (j / C)) (by simp [hdiv])] at hu
      rw [← add_flat, ← e, (hV (j / C) hdiv).2 (j % C) hmod]
      exact hu
    · intro x hx
      simp at hx
      obtain ⟨i, hi, rfl⟩ := hx
      exact (hV i hi).1

/-- The one-cell fields of a struct. -/
theorem trod_fields {t : TypeId} {fs : Array Field} {fuel : Nat} {cs : List Value} {x : DataW H × List MemPlace} (ht : P.underlying t = some (.struct fs)) (hone : oneCellFields P fs = true) (hC : P.cellsOf t = fs.size)
    (h : DataW.trod enc P W 0 (fun _ => true) true fuel t cs = some x) :
    cs.length = fs.size ∧ ∃ n, ∀ (j : Nat) (fd : Field), fs[j]? = some fd → ∃ v y, cs[j]? = some v ∧ DataW.trod enc P W 0 (fun _ => true) true n fd.type [v] = some y := by
  obtain ⟨xs, n, _, _, hlen, hxl, hf⟩ := DataW.trod_struct ht h
  refine ⟨hlen.trans hC, n, fun j fd hj => ?_⟩
  obtain ⟨ho, hk⟩ := hone_of hone j fd hj
  have hjl : j < fs.size := (Array.getElem?_eq_some_iff.1 hj).1
  have h1 := hf j fd hj
  rw [ho, hk] at h1
  have hjc : j < cs.length := by rw [hlen, hC]; exact hjl
  have hone' : (cs.drop j).take 1 = [cs[j]] := by rw [List.drop_eq_getElem_cons hjc]; rfl
  rw [hone', List.getElem?_eq_getElem (show j < xs.length by omega)] at h1
  exact ⟨_, _, List.getElem?_eq_getElem hjc, h1⟩

/-! ### bytes, numbers, rows of bytes -/
theorem open_bytes' {t e : TypeId} {a : Option Addr} {len cap fuel : Nat} {y : DataW H × List MemPlace} (ht : P.underlying t = some (.slice e)) (he : P.underlying e = some (.int .u8)) (hc : P.cellsOf e = 1)
    (h : DataW.trod enc P W 0 (fun _ => true) true fuel t [.slice a len cap] = some y) : ∃ l, Bs W a len cap l := by
  obtain ⟨L, _, hs, _⟩ := open_elems (α := UInt8) ht hc (by decide) h (fun x => [u8c x]) (fun _ => rfl) (fun _ => True) (fun n cs z hl hz => by
    obtain ⟨v, rfl, _, hw⟩ := DataW.trod_int he hz
    have := bounds_u8 hw
    exact ⟨UInt8.ofNat v.toNat, by rw [u8_of v (by omega) (by omega)], trivial⟩)
  refine ⟨L, ?_⟩
  have e : L.flatMap (fun x => [u8c x]) = L.map u8c := flat_one _ L
  rw [e] at hs
  exact hs
theorem open_bytes {t e : TypeId} {a : Option Addr} {len cap : Nat} {d : DataW H} {p : List MemPlace} (ht : P.underlying t = some (.slice e)) (he : P.underlying e = some (.int .u8)) (hc : P.cellsOf e = 1)
    (h : DataW.Trod enc P W 0 (fun _ => true) true t (.slice a len cap) d p) : ∃ l, Bs W a len cap l := by
  obtain ⟨fuel, hf⟩ := h
  exact open_bytes' ht he hc hf

/-- Numbers, each one that an int holds. -/
def Fits (l : List Int) : Prop := ∀ x ∈ l, -9223372036854775808 ≤ x ∧ x ≤ 9223372036854775807
theorem open_nums {t e : TypeId} {a : Option Addr} {len cap : Nat} {d : DataW H} {p : List MemPlace} (ht : P.underlying t = some (.slice e)) (he : P.underlying e = some (.int .i64)) (hc : P.cellsOf e = 1)
    (h : DataW.Trod enc P W 0 (fun _ => true) true t (.slice a len cap) d p) : ∃ l, Is W a len cap l ∧ Fits l := by
  obtain ⟨fuel, hf⟩ := h
  obtain ⟨L, _, hs, hg⟩ := open_elems (α := Int) ht hc (by decide) hf (fun x => [i64c x]) (fun _ => rfl) (fun x => -9223372036854775808 ≤ x ∧ x ≤ 9223372036854775807) (fun n cs z hl hz => by
    obtain ⟨v, rfl, _, hw⟩ := DataW.trod_int he hz
    have := bounds_i64 hw
    exact ⟨v, rfl, by omega⟩)
  have e : L.flatMap (fun x => [i64c x]) = L.map i64c := flat_one _ L
  rw [e] at hs
  exact ⟨L, hs, hg⟩

theorem open_rows {t e b : TypeId} {a : Option Addr} {len cap : Nat} {d : DataW H} {p : List MemPlace} (ht : P.underlying t = some (.slice e)) (he : P.underlying e = some (.slice b)) (hb : P.underlying b = some (.int .u8)) (hc : P.cellsOf e = 1) (hcb : P.cellsOf b = 1)
    (h : DataW.Trod enc P W 0 (fun _ => true) true t (.slice a len cap) d p) : ∃ L, Bss W a len cap L := by
  obtain ⟨fuel, hf⟩ := h
  obtain ⟨L, _, hs, hg⟩ := open_elems (α := BRow) ht hc (by decide) hf (fun x => [x.v]) (fun _ => rfl) (fun r => Bs W r.a r.n r.c r.l) (fun n cs z hl hz => by
    obtain ⟨a', l', c', rfl⟩ := Go.Joins.slice_form he hz
    obtain ⟨l, hl⟩ := open_bytes' he hb hcb hz
    exact ⟨⟨a', l', c', l⟩, rfl, hl⟩)
  have e : L.flatMap (fun x => [x.v]) = L.map BRow.v := flat_one _ L
  rw [e] at hs
  exact ⟨L, hs, hg⟩
end
end Go.Proofs.YtadenlhnfkccaaaGreatDoor

/- What the rows' frames tell of an operation that came in, and of an answer. No condition. -/
namespace Go.Proofs.YtadenlhnfkccaaaGreatDoor
open Go.RowKit Go.ChangeShapes Go.WideShapes Go.Deep
set_option linter.unusedVariables false
/-- What an operation's numbers keep to. -/
structure OpNum (o : OpD) : Prop where
  k : -9223372036854775808 ≤ o.k ∧ o.k ≤ 9223372036854775807
  e : -9223372036854775808 ≤ o.e ∧ o.e ≤ 9223372036854775807
  s : -9223372036854775808 ≤ o.s ∧ o.s ≤ 9223372036854775807
  n : -9223372036854775808 ≤ o.n ∧ o.n ≤ 9223372036854775807
  v : -9223372036854775808 ≤ o.v ∧ o.v ≤ 9223372036854775807
theorem OpNum.ok {o : OpD} (h : OpNum o) (hl : lightO o = true) : OpOk o := by
  unfold lightO at hl
  simp only [Bool.and_eq_true, decide_eq_true_eq] at hl
  exact ⟨h.k, h.e, h.s, h.n, h.v, by omega, by omega, by omega⟩
section
variable {H : Type} {enc : TypeId × Value → H} {P : Program} {W : World}
theorem open_op {r : Reach} {b0 : Nat} {t b : TypeId} {f0 f1 f2 f3 f4 f5 f6 f7 : Field} {v : Value} {d : DataW H} {p : List MemPlace} (ht : P.underlying t = some (.struct #[f0, f1, f2, f3, f4, f5, f6, f7])) (hone : oneCellFields P #[f0, f1, f2, f3, f4, f5, f6, f7] = true) (hC : P.cellsOf t = 8)
    (h0 : P.underlying f0.type = some (.int .i64)) (h1 : P.underlying f1.type = some .string) (h2 : P.underlying f2.type = some .string) (h3 : P.underlying f3.type = some (.int .i64)) (h4 : P.underlying f4.type = some (.int .i64)) (h5 : P.underlying f5.type = some (.int .i64)) (h6 : P.underlying f6.type = some (.int .i64))
    (h7 : P.underlying f7.type = some (.slice b)) (hb : P.underlying b = some (.int .u8)) (hcb : P.cellsOf b = 1)
    (hv : Value.okWide P W r b0 t v) (h : DataW.Trod enc P W 0 (fun _ => true) true t v d p) :
    ∃ (o : OpD) (A : Option Addr) (m c : Nat), v = opV o A m c ∧ OpNum o ∧ Bs W A m c o.x := by
  obtain ⟨cs, rfl, hsz⟩ := okWide_struct ht hv
  obtain ⟨fuel, hf⟩ := h
  obtain ⟨_, m, hfs⟩ := trod_fields (cs := cs.toList) ht hone hC hf
  obtain ⟨v0, y0, e0, t0⟩ := hfs 0 f0 rfl
  obtain ⟨v1, y1, e1, t1⟩ := hfs 1 f1 rfl
  obtain ⟨v2, y2, e2, t2⟩ := hfs 2 f2 rfl
  obtain ⟨v3, y3, e3, t3⟩ := hfs 3 f3 rfl
  obtain ⟨v4, y4, e4, t4⟩ := hfs 4 f4 rfl
  obtain ⟨v5, y5, e5, t5⟩ := hfs 5 f5 rfl
  obtain ⟨v6, y6, e6, t6⟩ := hfs 6 f6 rfl
  obtain ⟨v7, y7, e7, t7⟩ := hfs 7 f7 rfl
  obtain ⟨n0, q0, _, b0⟩ := DataW.trod_int h0 t0
  obtain ⟨s1, q1, _, b1⟩ := DataW.trod_string h1 t1
  obtain ⟨s2, q2, _, b2⟩ := DataW.trod_string h2 t2
  obtain ⟨n3, q3, _, b3⟩ := DataW.trod_int h3 t3
  obtain ⟨n4, q4, _, b4⟩ := DataW.trod_int h4 t4
  obtain ⟨n5, q5, _, b5⟩ := DataW.trod_int h5 t5
  obtain ⟨n6, q6, _, b6⟩ := DataW.trod_int h6 t6
  obtain ⟨A, m7, c7, q7⟩ := Go.Joins.slice_form h7 t7
  simp at q0 q1 q2 q3 q4 q5 q6 q7
  subst q0 q1 q2 q3 q4 q5 q6 q7
  obtain ⟨x, hx⟩ := open_bytes' h7 hb hcb t7
  refine ⟨⟨n0, s1.data.toList, s2.data.toList, n3, n4, n5, n6, x⟩, A, m7, c7, ?_, ⟨bounds_i64 b0, bounds_i64 b3, bounds_i64 b4, bounds_i64 b5, bounds_i64 b6⟩, hx⟩
  unfold opV opC
  congr 1
  apply Array.toList_inj.1
  have hl : cs.toList.length = 8 := by rw [Array.length_toList, hsz, hC]
  match hcs : cs.toList, hl with
  | [c0, c1, c2, c3, c4, c5, c6, c7], _ =>
    rw [hcs] at e0 e1 e2 e3 e4 e5 e6 e7
    simp at e0 e1 e2 e3 e4 e5 e6 e7
    subst e0 e1 e2 e3 e4 e5 e6 e7
    rfl
/-- An answer that came in. -/
theorem open_an {r : Reach} {b0 : Nat} {t b s : TypeId} {f0 f1 f2 f3 : Field} {v : Value} {d : DataW H} {p : List MemPlace} (ht : P.underlying t = some (.struct #[f0, f1, f2, f3])) (hone : oneCellFields P #[f0, f1, f2, f3] = true) (hC : P.cellsOf t = 4)
    (h0 : P.underlying f0.type = some (.int .i64)) (h1 : P.underlying f1.type = some (.slice b)) (hb : P.underlying b = some (.int .u8)) (hcb : P.cellsOf b = 1) (h2 : P.underlying f2.type = some (.slice s)) (hs : P.underlying s = some (.int .i64)) (hcs : P.cellsOf s = 1) (h3 : P.underlying f3.type = some .string)
    (hv : Value.okWide P W r b0 t v) (h : DataW.Trod enc P W 0 (fun _ => true) true t v d p) :
    ∃ (a : AnD) (A : Option Addr) (m c : Nat) (B : Option Addr) (p q : Nat), v = .agg (anC a A m c B p q) ∧ (-9223372036854775808 ≤ a.f ∧ a.f ≤ 9223372036854775807) ∧ Fits a.n ∧ Bs W A m c a.b ∧ Is W B p q a.n := by
  obtain ⟨v0, v1, v2, v3, y0, y1, y2, y3, fuel, rfl, _, _, t0, t1, t2, t3⟩ := Go.Joins.open_agg4 ht hone hC hv h
  obtain ⟨n0, q0, _, b0⟩ := DataW.trod_int h0 t0
  obtain ⟨A, m, c, q1⟩ := Go.Joins.slice_form h1 t1
  obtain ⟨B, p, q, q2⟩ := Go.Joins.slice_form h2 t2
  obtain ⟨s3, q3, _, _⟩ := DataW.trod_string h3 t3
  simp at q0 q1 q2 q3
  subst q0 q1 q2 q3
  obtain ⟨x, hx⟩ := open_bytes' h1 hb hcb t1
  obtain ⟨L, hL, hf⟩ := open_nums (enc := enc) (d := y2.1) (p := y2.2) h2 hs hcs ⟨fuel, t2⟩
  exact ⟨⟨n0, x, L, s3.data.toList⟩, A, m, c, B, p, q, rfl, bounds_i64 b0, hf, hx, hL⟩
end
end Go.Proofs.YtadenlhnfkccaaaGreatDoor

/- What the rows' frames tell of lines that came in. No condition. -/
namespace Go.Proofs.YtadenlhnfkccaaaGreatDoor
open Go.RowKit Go.ChangeShapes Go.WideShapes Go.Deep
set_option linter.unusedVariables false
/-- What a line's numbers keep to. -/
structure LnNum (d : LnD) : Prop where
  k : -9223372036854775808 ≤ d.k ∧ d.k ≤ 9223372036854775807
  o : OpNum d.o
  n : -9223372036854775808 ≤ d.n ∧ d.n ≤ 9223372036854775807
  p : Fits d.p
  t : -9223372036854775808 ≤ d.t ∧ d.t ≤ 9223372036854775807
  a : -9223372036854775808 ≤ d.a ∧ d.a ≤ 9223372036854775807
  e : -9223372036854775808 ≤ d.e ∧ d.e ≤ 9223372036854775807
theorem LnNum.ok {d : LnD} (h : LnNum d) (hl : lightT d = true) : LnOk d ∧ OpLt d.o ∧ d.p.length ≤ 80 ∧ d.b.length ≤ 600 := by
  unfold lightT lightC at hl
  simp only [Bool.and_eq_true, decide_eq_true_eq] at hl
  obtain ⟨⟨⟨h1, h2⟩, h3, h4⟩, h5⟩ := hl
  have h1' := h1
  unfold lightO at h1'
  simp only [Bool.and_eq_true, decide_eq_true_eq] at h1'
  exact ⟨⟨h.n, h.t, h.a, h.e, h.p, by omega, by omega, by omega, by omega⟩, ⟨h.o.ok h1, by omega, by omega⟩, h2, h5⟩
section
variable {H : Type} {enc : TypeId × Value → H} {P : Program} {W : World}
/-- Where the fields of a struct lie. -/
def offs (P : Program) (fs : Array Field) : List (Nat × Nat) := fs.toList.map fun f => (f.offset, P.cellsOf f.type)
theorem trod_sub {t : TypeId} {fs : Array Field} {fuel : Nat} {cs : List Value} {x : DataW H × List MemPlace} (ht : P.underlying t = some (.struct fs))
    (h : DataW.trod enc P W 0 (fun _ => true) true fuel t cs = some x) :
    cs.length = P.cellsOf t ∧ ∃ n, ∀ (j : Nat) (fd : Field) (o k : Nat), fs[j]? = some fd → (offs P fs)[j]? = some (o, k) → ∃ y, DataW.trod enc P W 0 (fun _ => true) true n fd.type ((cs.drop o).take k) = some y := by
  obtain ⟨xs, n, _, _, hlen, hxl, hf⟩ := DataW.trod_struct ht h
  refine ⟨hlen, n, fun j fd o k hj ho => ?_⟩
  have hjl : j < fs.size := (Array.getElem?_eq_some_iff.1 hj).1
  have h1 := hf j fd hj
  rw [List.getElem?_eq_getElem (show j < xs.length by omega)] at h1
  unfold offs at ho
  rw [List.getElem?_map] at ho
  have hj' : fs.toList[j]? = some fd := by rw [Array.getElem?_toList]; exact hj
  rw [hj'] at ho
  simp only [Option.map_some, Option.some.injEq, Prod.mk.injEq] at ho
  rw [← ho.1, ← ho.2]
  exact ⟨_, h1⟩
theorem opCells_of {t b : TypeId} {f0 f1 f2 f3 f4 f5 f6 f7 : Field} {fuel : Nat} {cs : List Value} {x : DataW H × List MemPlace} (ht : P.underlying t = some (.struct #[f0, f1, f2, f3, f4, f5, f6, f7])) (hone : oneCellFields P #[f0, f1, f2, f3, f4, f5, f6, f7] = true) (hC : P.cellsOf t = 8)
    (h0 : P.underlying f0.type = some (.int .i64)) (h1 : P.underlying f1.type = some .string) (h2 : P.underlying f2.type = some .string) (h3 : P.underlying f3.type = some (.int .i64)) (h4 : P.underlying f4.type = some (.int .i64)) (h5 : P.underlying f5.type = some (.int .i64)) (h6 : P.underlying f6.type = some (.int .i64))
    (h7 : P.underlying f7.type = some (.slice b)) (hb : P.underlying b = some (.int .u8)) (hcb : P.cellsOf b = 1) (hl : cs.length = 8)
    (hf : DataW.trod enc P W 0 (fun _ => true) true fuel t cs = some x) :
    ∃ (o : OpD) (A : Option Addr) (m c : Nat), cs = (opC o A m c).toList ∧ OpNum o ∧ Bs W A m c o.x := by
  obtain ⟨_, m, hfs⟩ := trod_fields (cs := cs) ht hone hC hf
  obtain ⟨v0, y0, e0, t0⟩ := hfs 0 f0 rfl
  obtain ⟨v1, y1, e1, t1⟩ := hfs 1 f1 rfl
  obtain ⟨v2, y2, e2, t2⟩ := hfs 2 f2 rfl
  obtain ⟨v3, y3, e3, t3⟩ := hfs 3 f3 rfl
  obtain ⟨v4, y4, e4, t4⟩ := hfs 4 f4 rfl
  obtain ⟨v5, y5, e5, t5⟩ := hfs 5 f5 rfl
  obtain ⟨v6, y6, e6, t6⟩ := hfs 6 f6 rfl
  obtain ⟨v7, y7, e7, t7⟩ := hfs 7 f7 rfl
  obtain ⟨n0, q0, _, b0⟩ := DataW.trod_int h0 t0
  obtain ⟨s1, q1, _, b1⟩ := DataW.trod_string h1 t1
  obtain ⟨s2, q2, _, b2⟩ := DataW.trod_string h2 t2
  obtain ⟨n3, q3, _, b3⟩ := DataW.trod_int h3 t3
  obtain ⟨n4, q4, _, b4⟩ := DataW.trod_int h4 t4
  obtain ⟨n5, q5, _, b5⟩ := DataW.trod_int h5 t5
  obtain ⟨n6, q6, _, b6⟩ := DataW.trod_int h6 t6
  obtain ⟨A, m7, c7, q7⟩ := Go.Joins.slice_form h7 t7
  simp at q0 q1 q2 q3 q4 q5 q6 q7
  subst q0 q1 q2 q3 q4 q5 q6 q7
  obtain ⟨x, hx⟩ := open_bytes' h7 hb hcb t7
  refine ⟨⟨n0, s1.data.toList, s2.data.toList, n3, n4, n5, n6, x⟩, A, m7, c7, ?_, ⟨bounds_i64 b0, bounds_i64 b3, bounds_i64 b4, bounds_i64 b5, bounds_i64 b6⟩, hx⟩
  unfold opC
  match cs, hl with
  | [c0, c1, c2, c3, c4, c5, c6, c7], _ =>
    simp at e0 e1 e2 e3 e4 e5 e6 e7
    subst e0 e1 e2 e3 e4 e5 e6 e7
    rfl
theorem cmCells_of {t : TypeId} {f0 f1 f2 : Field} {fuel : Nat} {cs : List Value} {x : DataW H × List MemPlace} (ht : P.underlying t = some (.struct #[f0, f1, f2])) (hone : oneCellFields P #[f0, f1, f2] = true) (hC : P.cellsOf t = 3)
    (h0 : P.underlying f0.type = some .string) (h1 : P.underlying f1.type = some (.int .i64)) (h2 : P.underlying f2.type = some .string) (hl : cs.length = 3)
    (hf : DataW.trod enc P W 0 (fun _ => true) true fuel t cs = some x) :
    ∃ (g i : List UInt8) (e : Int), cs = [strc g, .int .i64 e, strc i] ∧ -9223372036854775808 ≤ e ∧ e ≤ 9223372036854775807 := by
  obtain ⟨_, m, hfs⟩ := trod_fields (cs := cs) ht hone hC hf
  obtain ⟨v0, y0, e0, t0⟩ := hfs 0 f0 rfl
  obtain ⟨v1, y1, e1, t1⟩ := hfs 1 f1 rfl
  obtain ⟨v2, y2, e2, t2⟩ := hfs 2 f2 rfl
  obtain ⟨s0, q0, _, _⟩ := DataW.trod_string h0 t0
  obtain ⟨n1, q1, _, b1⟩ := DataW.trod_int h1 t1
  obtain ⟨s2, q2, _, _⟩ := DataW.trod_string h2 t2
  simp at q0 q1 q2
  subst q0 q1 q2
  refine ⟨s0.data.toList, s2.data.toList, n1, ?_, bounds_i64 b1⟩
  match cs, hl with
  | [c0, c1, c2], _ =>
    simp at e0 e1 e2
    subst e0 e1 e2
    rfl
instance : Inhabited LnV := ⟨lnV0⟩
end
section
variable {H : Type} {enc : TypeId × Value → H} {W : World}
theorem lnCells_of {fuel : Nat} {cs : List Value} {x : DataW H × List MemPlace} (hl : cs.length = 17)
    (hf : DataW.trod enc Tryz.prog W 0 (fun _ => true) true fuel 29 cs = some x) :
    ∃ y : LnV, cs = y.cells ∧ LnAt W y ∧ LnNum y.d := by
  obtain ⟨_, m, hfs⟩ := trod_sub Tryz.underlying29 hf
  obtain ⟨y0, t0⟩ := hfs 0 _ 0 1 rfl (by kernel_rfl)
  obtain ⟨y1, t1⟩ := hfs 1 _ 1 8 rfl (by kernel_rfl)
  obtain ⟨y2, t2⟩ := hfs 2 _ 9 1 rfl (by kernel_rfl)
  obtain ⟨y3, t3⟩ := hfs 3 _ 10 1 rfl (by kernel_rfl)
  obtain ⟨y4, t4⟩ := hfs 4 _ 11 1 rfl (by kernel_rfl)
  obtain ⟨y5, t5⟩ := hfs 5 _ 12 1 rfl (by kernel_rfl)
  obtain ⟨y6, t6⟩ := hfs 6 _ 13 3 rfl (by kernel_rfl)
  obtain ⟨y7, t7⟩ := hfs 7 _ 16 1 rfl (by kernel_rfl)
  obtain ⟨n0, q0, _, b0⟩ := DataW.trod_int Tryz.underlying3 t0
  obtain ⟨o, A1, m1, c1, q1, b1, x1⟩ := opCells_of Tryz.underlying24 (by kernel_rfl) (by kernel_rfl) Tryz.underlying3 Tryz.underlying9 Tryz.underlying9 Tryz.underlying3 Tryz.underlying3 Tryz.underlying3 Tryz.underlying3 Tryz.underlying22 Tryz.underlying5 (by kernel_rfl) (by rw [List.length_take, List.length_drop, hl]; decide) t1
  obtain ⟨n2, q2, _, b2⟩ := DataW.trod_int Tryz.underlying3 t2
  obtain ⟨A3, m3, c3, q3⟩ := Go.Joins.slice_form Tryz.underlying25 t3
  obtain ⟨n4, q4, _, b4⟩ := DataW.trod_int Tryz.underlying3 t4
  obtain ⟨n5, q5, _, b5⟩ := DataW.trod_int Tryz.underlying3 t5
  obtain ⟨g, i, e, q6, b6⟩ := cmCells_of Tryz.underlying27 (by kernel_rfl) (by kernel_rfl) Tryz.underlying9 Tryz.underlying3 Tryz.underlying9 (by rw [List.length_take, List.length_drop, hl]; decide) t6
  obtain ⟨A7, m7, c7, q7⟩ := Go.Joins.slice_form Tryz.underlying22 t7
  rw [q3] at t3
  rw [q7] at t7
  obtain ⟨L, hL, hF⟩ := open_nums (enc := enc) (d := y3.1) (p := y3.2) Tryz.underlying25 Tryz.underlying3 (by kernel_rfl) ⟨m, t3⟩
  obtain ⟨x, hx⟩ := open_bytes' Tryz.underlying22 Tryz.underlying5 (by kernel_rfl) t7
  have e1 := x1.len; have e3 := hL.len; have e7 := hx.len
  subst e1 e3 e7
  refine ⟨⟨⟨n0, o, n2, L, n4, n5, g, e, i, x⟩, A1, c1, A3, c3, A7, c7⟩, ?_, ⟨x1, hL, hx⟩, ⟨bounds_i64 b0, b1, bounds_i64 b2, hF, bounds_i64 b4, bounds_i64 b5, b6⟩⟩
  have hcs : cs = (cs.drop 0).take 1 ++ ((cs.drop 1).take 8 ++ ((cs.drop 9).take 1 ++ ((cs.drop 10).take 1 ++ ((cs.drop 11).take 1 ++ ((cs.drop 12).take 1 ++ ((cs.drop 13).take 3 ++ (cs.drop 16).take 1)))))) := by
    clear hf hfs t0 t1 t2 t3 t4 t5 t6 t7 q0 q1 q2 q3 q4 q5 q6 q7
    match cs, hl with
    | [a0, a1, a2, a3, a4, a5, a6, a7, a8, a9, a10, a11, a12, a13, a14, a15, a16], _ => rfl
  rw [hcs, q0, q1, q2, q3, q4, q5, q6, q7]
  rfl
set_option maxRecDepth 100000 in
/-- A line that came in. -/
theorem open_line {r : Reach} {b0 : Nat} {v : Value} {d : DataW H} {p : List MemPlace}
    (hv : Value.okWide Tryz.prog W r b0 29 v) (h : DataW.Trod enc Tryz.prog W 0 (fun _ => true) true 29 v d p) :
    ∃ y : LnV, v = .agg y.arr ∧ LnAt W y ∧ LnNum y.d := by
  obtain ⟨cs, rfl, hsz⟩ := okWide_struct Tryz.underlying29 hv
  obtain ⟨fuel, hf⟩ := h
  have hC : Tryz.prog.cellsOf 29 = 17 := by kernel_rfl
  obtain ⟨y, hy, hA, hN⟩ := lnCells_of (cs := cs.toList) (Array.length_toList.trans (hsz.trans hC)) hf
  refine ⟨y, ?_, hA, hN⟩
  congr 1
  apply Array.toList_inj.1
  exact hy
/-- Lines that came in. -/
theorem open_lines {a : Option Addr} {len cap : Nat} {d : DataW H} {p : List MemPlace} (h : DataW.Trod enc Tryz.prog W 0 (fun _ => true) true 48 (.slice a len cap) d p) :
    ∃ L : List LnV, Lns W a len cap L ∧ ∀ x ∈ L, LnNum x.d := by
  obtain ⟨fuel, hf⟩ := h
  obtain ⟨L, hl, hs, hg⟩ := open_elems (α := LnV) Tryz.underlying48 (show Tryz.prog.cellsOf 29 = 17 by kernel_rfl) (by decide) hf LnV.cells LnV.len (fun x => LnAt W x ∧ LnNum x.d) (fun n cs z hlen hz => lnCells_of hlen hz)
  exact ⟨L, ⟨hl, hs, fun x hx => (hg x hx).1⟩, fun x hx => (hg x hx).2⟩
end
end Go.Proofs.YtadenlhnfkccaaaGreatDoor
