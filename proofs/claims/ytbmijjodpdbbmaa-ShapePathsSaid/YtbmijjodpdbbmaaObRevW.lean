import Derived.Test.YtbmijjodpdbbmaaObTrailW
import Derived.BigRegion
namespace Go.Proofs.Ytbmijjodpdbbmaa
open Go.RowKit
set_option linter.unusedVariables false

/-- The first k and the last k of numbers have changed their places. -/
def revTo (l : List Int) (k : Nat) : List Int := (List.range l.length).map fun j => if j < k ∨ l.length - k ≤ j then l.getD (l.length - 1 - j) 0 else l.getD j 0
theorem revTo_len (l : List Int) (k : Nat) : (revTo l k).length = l.length := by simp [revTo]
theorem revTo_zero (l : List Int) : revTo l 0 = l := by
  unfold revTo
  apply List.ext_getElem (by simp)
  intro i h1 h2
  simp at h1
  simp [h1]
  intro h; omega
theorem revTo_at (l : List Int) (k j : Nat) (h : j < l.length) : (revTo l k)[j]? = some (if j < k ∨ l.length - k ≤ j then l.getD (l.length - 1 - j) 0 else l.getD j 0) := by simp [revTo, h]
theorem revTo_all (l : List Int) (k : Nat) (h : l.length ≤ 2 * k + 1) : revTo l k = l.reverse := by
  apply List.ext_getElem? 
  intro j
  by_cases hj : j < l.length
  · rw [revTo_at l k j hj, List.getElem?_reverse hj]
    have e : l.length - 1 - j < l.length := by omega
    rw [List.getElem?_eq_getElem e]
    split
    · simp [e]
    · have : l.length - 1 - j = j := by omega
      simp [this, hj]
  · rw [List.getElem?_eq_none (by rw [revTo_len]; omega), List.getElem?_eq_none (by simp; omega)]
theorem revTo_swap (l : List Int) (k : Nat) (h : 2 * k + 1 < l.length) : ((revTo l k).set k (l.getD (l.length - 1 - k) 0)).set (l.length - 1 - k) (l.getD k 0) = revTo l (k + 1) := by
  apply List.ext_getElem?
  intro j
  by_cases hj : j < l.length
  · rw [revTo_at l (k + 1) j hj, List.getElem?_set]
    by_cases h1 : l.length - 1 - k = j
    · rw [if_pos h1, if_pos (by simp [revTo_len]; omega), if_pos (by omega)]
      have : l.length - 1 - j = k := by omega
      rw [this]
    · rw [if_neg h1, List.getElem?_set]
      by_cases h2 : k = j
      · rw [if_pos h2, if_pos (by simp [revTo_len]; omega), if_pos (by omega), h2]
      · rw [if_neg h2, revTo_at l k j hj]
        congr 1
        by_cases h3 : j < k ∨ l.length - k ≤ j
        · rw [if_pos h3, if_pos (by omega)]
        · rw [if_neg h3, if_neg (by omega)]
  · rw [List.getElem?_eq_none (by simp [revTo_len]; omega), List.getElem?_eq_none (by rw [revTo_len]; omega)]

/-- A row of numbers of the call's own, at the head of a block. -/
theorem Own.row {w0 w : World} {v : Value} {l : List Int} (h : Own w0 w 3 1 v l.length (l.map i64c)) (hn : 0 < l.length) :
    ∃ g cap rest, v = .slice (some ⟨g, 0, none⟩) l.length cap ∧ w0.heap.size ≤ g ∧ Blk w g 3 (l.map i64c ++ rest) ∧ l.length + rest.length = cap ∧ cap ≤ 9223372036854775807 := by
  rcases h.1.2 with ⟨_, h0⟩ | ⟨g, cap, cur, rfl, hg, hh, hn', hc, hs, ht⟩
  · omega
  · refine ⟨g, cap, cur.toList.drop l.length, rfl, hg, ?_, ?_, hc⟩
    · unfold Blk
      have e : (l.map i64c ++ cur.toList.drop l.length).toArray = cur := by
        have ht' : cur.toList.take l.length = l.map i64c := by simpa using ht
        rw [← ht', List.take_append_drop]
      rw [e]; exact hh
    · simp at hs
      simp; omega
theorem Own.of_row {w0 w w' : World} {g cap : Nat} {l : List Int} {rest : List Value} (hb : Below w0.heap.size w0 w') (hg : w0.heap.size ≤ g) (h : Blk w' g 3 (l.map i64c ++ rest)) (hc : l.length + rest.length = cap) (hm : cap ≤ 9223372036854775807) :
    Own w0 w' 3 1 (.slice (some ⟨g, 0, none⟩) l.length cap) l.length (l.map i64c) :=
  ⟨⟨by simp, .inr ⟨g, cap, _, rfl, hg, h, by omega, hm, by simp; omega, by simp⟩⟩, hb⟩

set_option maxHeartbeats 1000000 in
theorem reverse_row (g cap : Nat) (l : List Int) (rest : List Value) (w0 w : World) (hb : Below w0.heap.size w0 w) (hg : w0.heap.size ≤ g) (h : Blk w g 3 (l.map i64c ++ rest)) (hc : l.length + rest.length = cap) (hm : cap ≤ 9223372036854775807) (hn : 0 < l.length) :
    Calls Try.prog 46 #[.slice (some ⟨g, 0, none⟩) l.length cap] w fun e w' => e = .returned (.tuple #[]) ∧ Blk w' g 3 (l.reverse.map i64c ++ rest) ∧ w.grownBy w' (some g) := by
  have hcap : l.length ≤ cap := by omega
  have HC := Lib.hid hc; clear hc
  have HH := Lib.hid h; clear h
  go_enter Try.func46, Try.ntmps46
  go_wp2
  go_loopw [2, 3] (fun i j wr => ∃ k m : Nat, m + k + 1 = l.length ∧ 2 * k ≤ l.length ∧ i = .int .i64 k ∧ j = .int .i64 m ∧ Blk wr g 3 ((revTo l k).map i64c ++ rest) ∧ w.grownBy wr (some g)) (fun i _ _ => l.length - (intOf i).toNat)
  case atStart => exact ⟨0, l.length - 1, by omega, by omega, rfl, by go_num, by rw [revTo_zero]; exact HH.out, World.grownBy.refl w _⟩
  case round =>
    obtain ⟨k, m, hkm, hk, rfl, rfl, hblk, hgr⟩ := hrel
    have hm1 : m < l.length := by omega
    have hk1 : k < l.length := by omega
    by_cases hlt : k < m
    · have c1 := hblk.cell k
      rw [List.getElem?_append_left (by simp [revTo_len]; omega), List.getElem?_map, revTo_at l k k (by omega), if_neg (by omega)] at c1
      simp only [Option.map_some] at c1
      have c2 := hblk.cell m
      rw [List.getElem?_append_left (by simp [revTo_len]; omega), List.getElem?_map, revTo_at l k m (by omega), if_neg (by omega)] at c2
      simp only [Option.map_some] at c2
      have c1' : wr.cell? ⟨g, k, none⟩ = some (.int .i64 (l.getD k 0)) := c1
      have c2' : wr.cell? ⟨g, m, none⟩ = some (.int .i64 (l.getD m 0)) := c2
      clear c1 c2
      have f1 := hblk.free k
      have f2 := hblk.free m
      have HS : Hid (((revTo l k).set k (l.getD m 0)).set m (l.getD k 0) = revTo l (k + 1)) := by
        have h := revTo_swap l k (by omega)
        have e : l.length - 1 - k = m := by omega
        rw [e] at h
        exact h
      generalize l.getD k 0 = vk at *
      generalize l.getD m 0 = vm at *
      have HB := Lib.hid hblk; clear hblk
      have i1 : (k : Int) < l.length := by omega
      have i2 : (m : Int) < l.length := by omega
      have n1 : ¬ (m = k) := by omega
      have n2 : ¬ (k = m) := by omega
      have HKM := Lib.hid hkm; clear hkm
      have HFIN : Hid (Blk ((wr.setCell ⟨g, k, none⟩ (.int .i64 vm)).setCell ⟨g, m, none⟩ (.int .i64 vk)) g 3 ((revTo l (k + 1)).map i64c ++ rest)) := by
        have h := (HB.out.set k (.int .i64 vm)).set m (.int .i64 vk)
        rw [List.set_append_left _ _ (by simp [revTo_len]; omega), List.set_append_left _ _ (by simp [revTo_len]; omega)] at h
        have e : (((revTo l k).map i64c).set k (.int .i64 vm)).set m (.int .i64 vk) = (revTo l (k + 1)).map i64c := by
          rw [← HS.out, List.map_set, List.map_set]; rfl
        rw [e] at h
        exact h
      have HGR : Hid (w.grownBy ((wr.setCell ⟨g, k, none⟩ (.int .i64 vm)).setCell ⟨g, m, none⟩ (.int .i64 vk)) (some g)) := by
        refine ⟨hgr.os, hgr.tape, hgr.output, by simpa [World.setCell] using hgr.size, fun i hi hne => ?_⟩
        rw [Below.heap_setCell _ _ _ i (fun e => hne (by rw [e])), Below.heap_setCell _ _ _ i (fun e => hne (by rw [e]))]
        exact hgr.block i hi hne
      clear hgr
      go_wp2
      go_region
      all_goals
        go_wp2
        go_roundw
        case rel => exact ⟨k + 1, m - 1, by have := HKM.out; omega, by have := HKM.out; omega, by go_num, by go_num, HFIN.out, ⟨HGR.out.os, HGR.out.tape, HGR.out.output, HGR.out.size, HGR.out.block⟩⟩
        case measure => simp [intOf]; omega
    · have HFIN : Hid (Blk wr g 3 (l.reverse.map i64c ++ rest)) := by
        rw [revTo_all l k (by omega)] at hblk
        exact hblk
      clear hblk
      go_wp2
      go_end0
      exact ⟨rfl, HFIN.out, hgr⟩
/-- Reverse of numbers that are the call's own. -/
theorem reverse_own (v : Value) (l : List Int) (w0 w : World) (h : Own w0 w 3 1 v l.length (l.map i64c)) :
    Calls Try.prog 46 #[v] w fun e w' => e = .returned (.tuple #[]) ∧ Own w0 w' 3 1 v l.length (l.reverse.map i64c) := by
  rcases Nat.eq_zero_or_pos l.length with hz | hn
  · have hl : l = [] := List.eq_nil_of_length_eq_zero hz
    subst hl
    obtain ⟨A, c, rfl, hs⟩ := h.slice
    have HF := Lib.hid h; clear h hs
    go_enter Try.func46, Try.ntmps46
    go_wp2
    refine wp_loop_rounds 1 ?_
    rw [rounds_succ]
    go_wp2
    go_end0
    exact ⟨rfl, HF.out⟩
  · obtain ⟨g, cap, rest, rfl, hg, hblk, hc, hm⟩ := h.row hn
    refine (reverse_row g cap l rest w0 w h.below hg hblk hc hm hn).mono ?_
    rintro e w' ⟨rfl, hb', hgr⟩
    have h2 := Own.of_row (w0 := w0) (w := w) (l := l.reverse) (h.below.grown hgr h.below.size (fun k hk => by injection hk with hk; omega)) hg hb' (by simp; omega) hm
    rw [List.length_reverse] at h2
    exact ⟨rfl, h2⟩
end Go.Proofs.Ytbmijjodpdbbmaa
