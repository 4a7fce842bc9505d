import Derived.Test.YtbmijjodpdbbmaaObShapeR
import Derived.Test.YtbmijjodpdbbmaaObRevW
import Derived.Deep.RegionWith
namespace Go.Proofs.Ytbmijjodpdbbmaa
open Go.RowKit
set_option linter.unusedVariables false

def pathI (a d l s : Int) : List Int := if leafI a d l s = -1 then [] else (upI a d l (parentI a d l (leafI a d l s))).reverse
theorem RetIs.own {w : World} {l : List Int} {e : Ending} {w' : World} (h : RetIs w l e w') : ∃ v, e = .returned v ∧ Own w w' 3 1 v l.length (l.map i64c) := h

set_option maxHeartbeats 1000000 in
theorem path_any (a d l p : Int) (w : World) :
    Calls Try.prog 24 #[.agg #[.int .i64 a, .int .i64 d, .int .i64 l], .int .i64 p] w (RetIs w (pathI a d l p)) := by
  have hb : Below w.heap.size w (w.alloc (.cells #[.int .i64 a, .int .i64 d, .int .i64 l] 40)) := (Below.refl _ _).alloc (Nat.le_refl _) _
  have hc := (Blk.new w 40 #[.int .i64 a, .int .i64 d, .int .i64 l])
  obtain ⟨wl, hwl⟩ : ∃ wl, wl = w.alloc (.cells #[.int .i64 a, .int .i64 d, .int .i64 l] 40) := ⟨_, rfl⟩
  rw [← hwl] at hb hc
  have HB := Lib.hid hb; have HWL := Lib.hid hwl; clear hb hwl
  have HCELL : Hid (∀ (i : Nat) (v : Value), [Value.int .i64 a, .int .i64 d, .int .i64 l][i]? = some v → ∀ wq, Below wl.heap.size wl wq → wq.cell? ⟨w.heap.size, i, none⟩ = some v) := by
    intro i v hv wq hq
    rw [hq.cell (p := ⟨w.heap.size, i, none⟩) hc.lt, hc.cell]
    exact hv
  clear hc
  by_cases hy : leafI a d l p = -1
  · have HE : Hid (pathI a d l p = []) := by show _ = _; unfold pathI; rw [if_pos hy]
    go_enter Try.func24, Try.ntmps24
    go_wp2_with fail
    rw [← HWL.out]
    refine (leaf_any _ _ l _ _).mono ?_
    rintro e w1 ⟨rfl, b1⟩
    rw [hy]
    have B1 := Lib.hid (below_both HB.out b1); clear b1 hy
    go_wp2
    go_ret
    exact ⟨_, rfl, by rw [HE.out]; exact Own.nil' B1.out _ _⟩
  · have HE : Hid (pathI a d l p = (upI a d l (parentI a d l (leafI a d l p))).reverse) := by show _ = _; unfold pathI; rw [if_neg hy]
    have t1 : (leafI a d l p == -1) = false := by simpa using hy
    clear hy
    go_enter Try.func24, Try.ntmps24
    go_wp2_with fail
    rw [← HWL.out]
    refine (leaf_any _ _ l _ _).mono ?_
    rintro e w1 ⟨rfl, b1⟩
    generalize leafI a d l p = lf at *
    have c0 := HCELL.out 0 _ rfl w1 b1
    have c1 := HCELL.out 1 _ rfl w1 b1
    have c2 := HCELL.out 2 _ rfl w1 b1
    have B1 := Lib.hid b1; clear b1
    go_wp2_with fail
    go_region_with (first | (go_at_call 45; refine (parent_any a d l lf _).mono ?_; rintro e w2 ⟨rfl, b2⟩; have B2 := Lib.hid (below_both B1.out.drew b2); have d0 := HCELL.out 0 _ rfl w2 B2.out; have d1 := HCELL.out 1 _ rfl w2 B2.out; have d2 := HCELL.out 2 _ rfl w2 B2.out; clear b2) | (go_at_call 44; refine (up_any a d l _ _).mono ?_; rintro e w3 ⟨v3, rfl, o3⟩))
    all_goals
      have O3 := Lib.hid (o3.base (below_both HB.out B2.out))
      clear o3
      go_wp2_with fail
      refine (reverse_own _ _ _ _ O3.out).mono ?_
      rintro e w4 ⟨rfl, o4⟩
      have O4 := Lib.hid o4; clear o4
      go_wp2
      go_ret
      exact ⟨_, rfl, by rw [HE.out, List.length_reverse]; exact O4.out⟩

set_option maxHeartbeats 1000000 in
theorem alive27_any (w : World) : Calls Try.prog 23 #[] w fun e w' => e = .returned (.bool true) ∧ Below w.heap.size w w' := by
  have hb : Below w.heap.size w (w.alloc (.cells #[.int .i64 2, .int .i64 2, .int .i64 4] 40)) := (Below.refl _ _).alloc (Nat.le_refl _) _
  have hc := (Blk.new w 40 #[.int .i64 2, .int .i64 2, .int .i64 4])
  obtain ⟨wl, hwl⟩ : ∃ wl, wl = w.alloc (.cells #[.int .i64 2, .int .i64 2, .int .i64 4] 40) := ⟨_, rfl⟩
  rw [← hwl] at hb hc
  have HB := Lib.hid hb; have HWL := Lib.hid hwl; clear hb hwl
  have HCELL : Hid (∀ (i : Nat) (v : Value), [Value.int .i64 2, .int .i64 2, .int .i64 4][i]? = some v → ∀ wq, Below wl.heap.size wl wq → wq.cell? ⟨w.heap.size, i, none⟩ = some v) := by
    intro i v hv wq hq
    rw [hq.cell (p := ⟨w.heap.size, i, none⟩) hc.lt, hc.cell]
    exact hv
  clear hc
  have HP : Hid (pathI 2 2 4 3 = [0, 2]) := by show _ = _; decide +kernel
  have HL : Hid (leafI 2 2 4 3 = 6) := by show _ = _; decide +kernel
  go_enter Try.func23, Try.ntmps23
  go_wp2_with fail
  rw [← HWL.out]
  refine (path_any 2 2 4 3 _).mono ?_
  rintro e w1 ⟨v1, rfl, o1⟩
  rw [HP.out] at o1
  obtain ⟨A1, c1, rfl, s1⟩ := o1.slice
  have B1 := Lib.hid o1.below
  have S1 := Lib.hid s1; clear s1 o1
  go_wp2_with fail
  have hb2 : Below w1.heap.size w1 (w1.alloc (.cells #[.int .i64 0, .int .i64 2] 3)) := (Below.refl _ _).alloc (Nat.le_refl _) _
  have s2 : Is (w1.alloc (.cells #[.int .i64 0, .int .i64 2] 3)) (some ⟨w1.heap.size, 0, none⟩) 2 2 [0, 2] := by
    refine ⟨rfl, Nat.le_refl _, by simp only [maxLen]; omega, fun _ => ⟨_, _, rfl, fun j u hu => ?_⟩⟩
    rw [Nat.zero_add, (Blk.new w1 3 #[.int .i64 0, .int .i64 2]).cell]
    exact hu
  refine (ints_b _ _ _ _ _ _ _ _ _ (S1.out.mono hb2) s2).mono ?_
  rintro e w3 ⟨rfl, b3⟩
  have e1 : (([0, 2] : List Int) == [0, 2]) = true := by simp
  rw [e1]
  have B3 := Lib.hid (below_both B1.out (below_both hb2 b3))
  clear e1 hb2 s2 b3
  have c0 := HCELL.out 0 _ rfl w3 B3.out
  have c1 := HCELL.out 1 _ rfl w3 B3.out
  have c2 := HCELL.out 2 _ rfl w3 B3.out
  go_wp2_with fail
  refine (leaf_any _ _ _ _ _).mono ?_
  rintro e w4 ⟨rfl, b4⟩
  rw [HL.out]
  have B4 := Lib.hid (below_both HB.out (below_both B3.out b4)); clear b4
  go_wp2
  go_ret
  exact ⟨rfl, B4.out⟩

end Go.Proofs.Ytbmijjodpdbbmaa
