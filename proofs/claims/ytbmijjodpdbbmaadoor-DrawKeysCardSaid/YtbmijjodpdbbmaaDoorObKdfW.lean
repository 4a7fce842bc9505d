import Derived.Test.YtbmijjodpdbbmaaDoorObMacT
import Derived.Deep.RegionHeld3
namespace Go.Proofs.YtbmijjodpdbbmaaDoor
open Go.RowKit
set_option linter.unusedVariables false

set_option maxRecDepth 100000 in
set_option maxHeartbeats 1000000 in
theorem expandf_any (pk pl pi : Nat) (A B C : Option Addr) (n c m d q e : Nat) (k l t : List UInt8) (w : World)
    (h1 : w.cell? ⟨pk, 0, none⟩ = some (.slice A n c)) (h2 : w.cell? ⟨pl, 0, none⟩ = some (.slice B m d)) (h3 : w.cell? ⟨pi, 0, none⟩ = some (.slice C q e))
    (hk : Bs w A n c k) (hl : Bs w B m d l) (ht : Bs w C q e t) (hn : n ≤ 50000) (hm : m ≤ 10000) (hq : q ≤ 10000) (hK : ShaK w) :
    Calls Tryd.prog 111 #[.int .i64 1, .pointer (some ⟨pk, 0, none⟩), .pointer (some ⟨pl, 0, none⟩), .pointer (some ⟨pi, 0, none⟩)] w (RetBs w (macL k (l ++ t ++ [1]))) := by
  have b1 := World.block_lt_of_cell? w _ h1
  have b2 := World.block_lt_of_cell? w _ h2
  have b3 := World.block_lt_of_cell? w _ h3
  have e1 : l.length = m := by have := Sl.len hl; simpa using this
  have e2 : t.length = q := by have := Sl.len ht; simpa using this
  have hw : IntKind.u8.wrap 1 = 1 := by decide
  obtain ⟨R, hR⟩ : ∃ R, R = [(⟨B, m, d, l⟩ : BRow), ⟨C, q, e, t⟩] := ⟨_, rfl⟩
  have hrr : rowsOf R = l ++ t := by rw [hR]; simp [rowsOf]
  obtain ⟨T, hT⟩ : ∃ T, T = l ++ t := ⟨_, rfl⟩
  have hTl : T.length = m + q := by rw [hT, List.length_append, e1, e2]
  rw [← hT] at hrr ⊢
  have HRR := Lib.hid hrr; clear hrr
  have HTL := Lib.hid hTl; clear hTl hT
  have SNEW : Hid (∀ W : World, Sl (W.alloc (.cells #[.int .u8 1] 5)) (some ⟨W.heap.size, 0, none⟩) 1 1 1 [.int .u8 1]) := by
    intro W
    refine ⟨by simp, Nat.le_refl _, by simp [maxLen], fun _ => ⟨_, _, rfl, ?_⟩⟩
    intro j u hu
    rw [Nat.zero_add, (Blk.new W _ _).cell]
    exact hu
  have al : ∀ (W : World) o, Below W.heap.size W (W.alloc o) := fun W o => (Below.refl _ _).alloc (Nat.le_refl _) _
  have X1 : Hid (Bss (w.alloc (.cells #[.slice B m d, .slice C q e] 22)).drew (some ⟨w.heap.size, 0, none⟩) 2 2 R) := by
    rw [hR]; exact (Bss.two (r := ⟨B, m, d, l⟩) (s := ⟨C, q, e, t⟩) hl ht _).mono (Below.refl _ _).drew
  have X2 : Hid (Bss ((w.alloc (.cells #[.slice B m d, .slice C q e] 22)).alloc (.cells #[.int .u8 1] 5)).drew (some ⟨w.heap.size, 0, none⟩) 2 2 R) := by
    rw [hR]; exact (Bss.two (r := ⟨B, m, d, l⟩) (s := ⟨C, q, e, t⟩) hl ht _).mono (al _ _).drew
  have X3 : Hid (Bss ((w.alloc (.cells #[.int .u8 1] 5)).alloc (.cells #[.slice B m d, .slice C q e] 22)).drew (some ⟨w.heap.size + 1, 0, none⟩) 2 2 R) := by
    have := (Bss.two (w := w.alloc (.cells #[.int .u8 1] 5)) (r := ⟨B, m, d, l⟩) (s := ⟨C, q, e, t⟩) (hl.mono (al _ _)) (ht.mono (al _ _)) 22).mono (Below.refl _ _).drew
    rw [hR]
    exact Lib.hid (by simpa using this)
  have S2 : Hid (Sl ((w.alloc (.cells #[.slice B m d, .slice C q e] 22)).alloc (.cells #[.int .u8 1] 5)).drew (some ⟨w.heap.size + 1, 0, none⟩) 1 1 1 [.int .u8 1]) := by
    have := (SNEW.out (w.alloc (.cells #[.slice B m d, .slice C q e] 22))).mono (Below.refl _ _).drew
    exact Lib.hid (by simpa using this)
  have S3 : Hid (Sl ((w.alloc (.cells #[.int .u8 1] 5)).alloc (.cells #[.slice B m d, .slice C q e] 22)).drew (some ⟨w.heap.size, 0, none⟩) 1 1 1 [.int .u8 1]) :=
    (SNEW.out w).mono ((al _ _).drew)
  have CL : Hid (∀ W : World, Below w.heap.size w W → W.cell? ⟨pk, 0, none⟩ = some (.slice A n c) ∧ W.cell? ⟨pl, 0, none⟩ = some (.slice B m d) ∧ W.cell? ⟨pi, 0, none⟩ = some (.slice C q e)) :=
    fun W hW => ⟨(hW.cell b1).trans h1, (hW.cell b2).trans h2, (hW.cell b3).trans h3⟩
  have BA1 : Hid (∀ o, Below w.heap.size w (w.alloc o).drew) := fun o => (al _ _).drew
  have BA2 : Hid (∀ o o', Below w.heap.size w ((w.alloc o).alloc o').drew) := fun o o' => (((al w o)).trans ((al _ _).mono (by simp))).drew
  have HKB := Lib.hid hk; have HK := Lib.hid hK
  clear hk hl ht hK hR al e1 e2 b1 b2 b3
  go_enter Tryd.func111, Tryd.ntmps111
  go_wp2_with fail
  go_region_held3 (fun w' => w'.cell? ⟨pk, 0, none⟩ = some (.slice A n c) ∧ w'.cell? ⟨pl, 0, none⟩ = some (.slice B m d) ∧ w'.cell? ⟨pi, 0, none⟩ = some (.slice C q e)) (go_keep)
    (first
      | (go_at_call 113; refine (concat_any _ 2 2 R _ (by first | exact X1.out | exact X2.out | exact X3.out) (by rw [HRR.out, HTL.out]; omega)).mono ?_; rintro e w3 ⟨v3, rfl, own3⟩; rw [HRR.out, HTL.out] at own3; have O3 : Hid (Own w w3 5 1 v3 (m + q) (T.map u8c)) := own3.base (by first | exact BA1.out _ | exact BA2.out _ _); have N3 := Lib.hid own3.below; clear own3; obtain ⟨z1, z2, z3⟩ := CL.out w3 O3.out.below)
      | (refine step_cat rfl (.tmp 10) (.tmp 13) 22 rfl tBytes rfl (by first | exact O3.out | exact O3.out.alloc _) rfl (news := [.int .u8 1]) (by first | exact SNEW.out _ | exact S2.out.mono N3.out | exact S3.out.mono N3.out) (one_int _ _) (by omega) ?_; intro v4 w4 own4; obtain ⟨A4, k4, rfl, sl4⟩ := own4.slice; have B4 := Lib.hid own4.below; have S4 : Hid (Bs w4 A4 (m + q + 1) k4 (T ++ [1])) := (by show Sl _ _ _ _ _ _; rw [List.map_append]; exact sl4); clear own4 sl4; obtain ⟨y1, y2, y3⟩ := CL.out w4 B4.out)
      | (go_at_call 112; refine (mac_any A A4 n c _ k4 k (T ++ [1]) _ (HKB.out.mono B4.out) hn S4.out (by omega) (HK.out.mono B4.out)).mono ?_; rintro e w5 ⟨v5, rfl, own5⟩; have O5 : Hid (Own w w5 5 1 v5 _ _) := own5.base B4.out; clear own5; obtain ⟨x1, x2, x3⟩ := CL.out w5 O5.out.below))
  all_goals
    go_wp2
    go_ret
    exact ⟨_, rfl, O5.out⟩
end Go.Proofs.YtbmijjodpdbbmaaDoor
