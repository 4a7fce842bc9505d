/- Own texts, one behind the other. No condition. -/
import Derived.Test.YtdkmlmbehlooiaaGreatDoorObPkBO
import Derived.BigRegion
import Derived.Deep.RegionWith
import Derived.Shelf.SlIterI.Nil
import Derived.Shelf.SlIterI.Collect
import Derived.Shelf.SortM.Plain
import Derived.Shelf.SortM.SortNone
import Derived.Ground.GgzProg
import Derived.Ground.SlgmProg
set_option linter.unusedVariables false
set_option linter.unusedSimpArgs false
namespace Go.Proofs.YtdkmlmbehlooiaaGreatDoor
section
open Go.RowKit
def revTo (l : List Int) (k : Nat) : List Int := (List.range l.length).map fun j => if j < k ∨ l.length - k ≤ j then l.getD (l.length - 1 - j) 0 else l.getD j 0
theorem revTo_len (l : List Int) (k : Nat) : (revTo l k).length = l.length := by simp [revTo]
theorem revTo_zero (l : List Int) : revTo l 0 = l := by
 unfold revTo
 apply List.ext_getElem (by simp)
 intro i h1 h2
 simp at h1
 simp [h1]
 intro h; omega
theorem revTo_at (l : List Int) (k j : Nat) (h : j < l.length) : (revTo l k)[j]? = some (if j < k ∨ l.length - k ≤ j then l.getD (l.length - 1 - j) 0 else l.getD j 0) := by simp [revTo, h]
theorem revTo_all (l : List Int) (k : Nat) (h : l.length ≤ 2 * k + 1) : revTo l k = l.reverse := by
 apply List.ext_getElem?
 intro j
 by_cases hj : j < l.length
 · rw [revTo_at l k j hj, List.getElem?_reverse hj]
   have e : l.length - 1 - j < l.length := by omega
   rw [List.getElem?_eq_getElem e]
   split
   · simp [e]
   · have : l.length - 1 - j = j := by omega
     simp [this, hj]
 · rw [List.getElem?_eq_none (by rw [revTo_len]; omega), List.getElem?_eq_none (by simp; omega)]
theorem revTo_swap (l : List Int) (k : Nat) (h : 2 * k + 1 < l.length) : ((revTo l k).set k (l.getD (l.length - 1 - k) 0)).set (l.length - 1 - k) (l.getD k 0) = revTo l (k + 1) := by
 apply List.ext_getElem?
 intro j
 by_cases hj : j < l.length
 · rw [revTo_at l (k + 1) j hj, List.getElem?_set]
   by_cases h1 : l.length - 1 - k = j
   · rw [if_pos h1, if_pos (by simp [revTo_len]; omega), if_pos (by omega)]
     have : l.length - 1 - j = k := by omega
     rw [this]
   · rw [if_neg h1, List.getElem?_set]
     by_cases h2 : k = j
     · rw [if_pos h2, if_pos (by simp [revTo_len]; omega), if_pos (by omega), h2]
     · rw [if_neg h2, revTo_at l k j hj]
       congr 1
       by_cases h3 : j < k ∨ l.length - k ≤ j
       · rw [if_pos h3, if_pos (by omega)]
       · rw [if_neg h3, if_neg (by omega)]
 · rw [List.getElem?_eq_none (by simp [revTo_len]; omega), List.getElem?_eq_none (by rw [revTo_len]; omega)]
theorem Own.row {w0 w : World} {v : Value} {l : List Int} (h : Own w0 w 3 1 v l.length (l.map i64c)) (hn : 0 < l.length) :
 ∃ g cap rest, v = .slice (some ⟨g, 0, none⟩) l.length cap ∧ w0.heap.size ≤ g ∧ Blk w g 3 (l.map i64c ++ rest) ∧ l.length + rest.length = cap ∧ cap ≤ 9223372036854775807 := by
 rcases h.1.2 with ⟨_, h0⟩ | ⟨g, cap, cur, rfl, hg, hh, hn', hc, hs, ht⟩
 · omega
 · refine ⟨g, cap, cur.toList.drop l.length, rfl, hg, ?_, ?_, hc⟩
   · unfold Blk
     have e : (l.map i64c ++ cur.toList.drop l.length).toArray = cur := by
      have ht' : cur.toList.take l.length = l.map i64c := by simpa using ht
      rw [← ht', List.take_append_drop]
     rw [e]; exact hh
   · simp at hs
     simp; omega
theorem Own.of_row {w0 w w' : World} {g cap : Nat} {l : List Int} {rest : List Value} (hb : Below w0.heap.size w0 w') (hg : w0.heap.size ≤ g) (h : Blk w' g 3 (l.map i64c ++ rest)) (hc : l.length + rest.length = cap) (hm : cap ≤ 9223372036854775807) :
 Own w0 w' 3 1 (.slice (some ⟨g, 0, none⟩) l.length cap) l.length (l.map i64c) :=
 ⟨⟨by simp, .inr ⟨g, cap, _, rfl, hg, h, by omega, hm, by simp; omega, by simp⟩⟩, hb⟩
set_option maxHeartbeats 1000000 in
theorem reverse_row (g cap : Nat) (l : List Int) (rest : List Value) (w0 w : World) (hb : Below w0.heap.size w0 w) (hg : w0.heap.size ≤ g) (h : Blk w g 3 (l.map i64c ++ rest)) (hc : l.length + rest.length = cap) (hm : cap ≤ 9223372036854775807) (hn : 0 < l.length) :
 Calls Tryz.prog 99 #[.slice (some ⟨g, 0, none⟩) l.length cap] w fun e w' => e = .returned (.tuple #[]) ∧ Blk w' g 3 (l.reverse.map i64c ++ rest) ∧ w.grownBy w' (some g) := by
 have hcap : l.length ≤ cap := by omega
 have HC := Lib.hid hc; clear hc
 have HH := Lib.hid h; clear h
 go_enter Tryz.func99, Tryz.ntmps99
 go_wp2
 go_loopw [2, 3] (fun i j wr => ∃ k m : Nat, m + k + 1 = l.length ∧ 2 * k ≤ l.length ∧ i = .int .i64 k ∧ j = .int .i64 m ∧ Blk wr g 3 ((revTo l k).map i64c ++ rest) ∧ w.grownBy wr (some g)) (fun i _ _ => l.length - (intOf i).toNat)
 case atStart => exact ⟨0, l.length - 1, by omega, by omega, rfl, by go_num, by rw [revTo_zero]; exact HH.out, World.grownBy.refl w _⟩
 case round =>
  obtain ⟨k, m, hkm, hk, rfl, rfl, hblk, hgr⟩ := hrel
  have hm1 : m < l.length := by omega
  have hk1 : k < l.length := by omega
  by_cases hlt : k < m
  · have c1 := hblk.cell k
    rw [List.getElem?_append_left (by simp [revTo_len]; omega), List.getElem?_map, revTo_at l k k (by omega), if_neg (by omega)] at c1
    simp only [Option.map_some] at c1
    have c2 := hblk.cell m
    rw [List.getElem?_append_left (by simp [revTo_len]; omega), List.getElem?_map, revTo_at l k m (by omega), if_neg (by omega)] at c2
    simp only [Option.map_some] at c2
    have c1' : wr.cell? ⟨g, k, none⟩ = some (.int .i64 (l.getD k 0)) := c1
    have c2' : wr.cell? ⟨g, m, none⟩ = some (.int .i64 (l.getD m 0)) := c2
    clear c1 c2
    have f1 := hblk.free k
    have f2 := hblk.free m
    have HS : Hid (((revTo l k).set k (l.getD m 0)).set m (l.getD k 0) = revTo l (k + 1)) := by
     have h := revTo_swap l k (by omega)
     have e : l.length - 1 - k = m := by omega
     rw [e] at h
     exact h
    generalize l.getD k 0 = vk at *
    generalize l.getD m 0 = vm at *
    have HB := Lib.hid hblk; clear hblk
    have i1 : (k : Int) < l.length := by omega
    have i2 : (m : Int) < l.length := by omega
    have n1 : ¬ (m = k) := by omega
    have n2 : ¬ (k = m) := by omega
    have HKM := Lib.hid hkm; clear hkm
    have HFIN : Hid (Blk ((wr.setCell ⟨g, k, none⟩ (.int .i64 vm)).setCell ⟨g, m, none⟩ (.int .i64 vk)) g 3 ((revTo l (k + 1)).map i64c ++ rest)) := by
     have h := (HB.out.set k (.int .i64 vm)).set m (.int .i64 vk)
     rw [List.set_append_left _ _ (by simp [revTo_len]; omega), List.set_append_left _ _ (by simp [revTo_len]; omega)] at h
     have e : (((revTo l k).map i64c).set k (.int .i64 vm)).set m (.int .i64 vk) = (revTo l (k + 1)).map i64c := by
      rw [← HS.out, List.map_set, List.map_set]; rfl
     rw [e] at h
     exact h
    have HGR : Hid (w.grownBy ((wr.setCell ⟨g, k, none⟩ (.int .i64 vm)).setCell ⟨g, m, none⟩ (.int .i64 vk)) (some g)) := by
     refine ⟨hgr.os, hgr.tape, hgr.output, by simpa [World.setCell] using hgr.size, fun i hi hne => ?_⟩
     rw [Below.heap_setCell _ _ _ i (fun e => hne (by rw [e])), Below.heap_setCell _ _ _ i (fun e => hne (by rw [e]))]
     exact hgr.block i hi hne
    clear hgr
    go_wp2
    go_region
    all_goals
     go_wp2
     go_roundw
     case rel => exact ⟨k + 1, m - 1, by have := HKM.out; omega, by have := HKM.out; omega, by go_num, by go_num, HFIN.out, ⟨HGR.out.os, HGR.out.tape, HGR.out.output, HGR.out.size, HGR.out.block⟩⟩
     case measure => simp [intOf]; omega
  · have HFIN : Hid (Blk wr g 3 (l.reverse.map i64c ++ rest)) := by
     rw [revTo_all l k (by omega)] at hblk
     exact hblk
    clear hblk
    go_wp2
    go_end0
    exact ⟨rfl, HFIN.out, hgr⟩
theorem reverse_own (v : Value) (l : List Int) (w0 w : World) (h : Own w0 w 3 1 v l.length (l.map i64c)) :
 Calls Tryz.prog 99 #[v] w fun e w' => e = .returned (.tuple #[]) ∧ Own w0 w' 3 1 v l.length (l.reverse.map i64c) := by
 rcases Nat.eq_zero_or_pos l.length with hz | hn
 · have hl : l = [] := List.eq_nil_of_length_eq_zero hz
   subst hl
   obtain ⟨A, c, rfl, hs⟩ := h.slice
   have HF := Lib.hid h; clear h hs
   go_enter Tryz.func99, Tryz.ntmps99
   go_wp2
   refine wp_loop_rounds 1 ?_
   rw [rounds_succ]
   go_wp2
   go_end0
   exact ⟨rfl, HF.out⟩
 · obtain ⟨g, cap, rest, rfl, hg, hblk, hc, hm⟩ := h.row hn
   refine (reverse_row g cap l rest w0 w h.below hg hblk hc hm hn).mono ?_
   rintro e w' ⟨rfl, hb', hgr⟩
   have h2 := Own.of_row (w0 := w0) (w := w) (l := l.reverse) (h.below.grown hgr h.below.size (fun k hk => by injection hk with hk; omega)) hg hb' (by simp; omega) hm
   rw [List.length_reverse] at h2
   exact ⟨rfl, h2⟩
end
section
open Go.RowKit
def pathI (a d l s : Int) : List Int := if leafI a d l s = -1 then [] else (upI a d l (parentI a d l (leafI a d l s))).reverse
set_option maxHeartbeats 1000000 in
theorem path_any (a d l p : Int) (w : World) :
 Calls Tryz.prog 40 #[.agg #[.int .i64 a, .int .i64 d, .int .i64 l], .int .i64 p] w (RetIs w (pathI a d l p)) := by
 have hb : Below w.heap.size w (w.alloc (.cells #[.int .i64 a, .int .i64 d, .int .i64 l] 23)) := (Below.refl _ _).alloc (Nat.le_refl _) _
 have hc := (Blk.new w 23 #[.int .i64 a, .int .i64 d, .int .i64 l])
 obtain ⟨wl, hwl⟩ : ∃ wl, wl = w.alloc (.cells #[.int .i64 a, .int .i64 d, .int .i64 l] 23) := ⟨_, rfl⟩
 rw [← hwl] at hb hc
 have HB := Lib.hid hb; have HWL := Lib.hid hwl; clear hb hwl
 have HCELL : Hid (∀ (i : Nat) (v : Value), [Value.int .i64 a, .int .i64 d, .int .i64 l][i]? = some v → ∀ wq, Below wl.heap.size wl wq → wq.cell? ⟨w.heap.size, i, none⟩ = some v) := by
  intro i v hv wq hq
  rw [hq.cell (p := ⟨w.heap.size, i, none⟩) hc.lt, hc.cell]
  exact hv
 clear hc
 by_cases hy : leafI a d l p = -1
 · have HE : Hid (pathI a d l p = []) := by show _ = _; unfold pathI; rw [if_pos hy]
   go_enter Tryz.func40, Tryz.ntmps40
   go_wp2_with fail
   rw [← HWL.out]
   refine (leaf_any _ _ l _ _).mono ?_
   rintro e w1 ⟨rfl, b1⟩
   rw [hy]
   have B1 := Lib.hid (bBo HB.out b1); clear b1 hy
   go_wp2
   go_ret
   exact ⟨_, rfl, by rw [HE.out]; exact Own.nil' B1.out _ _⟩
 · have HE : Hid (pathI a d l p = (upI a d l (parentI a d l (leafI a d l p))).reverse) := by show _ = _; unfold pathI; rw [if_neg hy]
   have t1 : (leafI a d l p == -1) = false := by simpa using hy
   clear hy
   go_enter Tryz.func40, Tryz.ntmps40
   go_wp2_with fail
   rw [← HWL.out]
   refine (leaf_any _ _ l _ _).mono ?_
   rintro e w1 ⟨rfl, b1⟩
   generalize leafI a d l p = lf at *
   have c0 := HCELL.out 0 _ rfl w1 b1
   have c1 := HCELL.out 1 _ rfl w1 b1
   have c2 := HCELL.out 2 _ rfl w1 b1
   have B1 := Lib.hid b1; clear b1
   go_wp2_with fail
   go_region_with (first | (go_at_call 98; refine (parent_any a d l lf _).mono ?_; rintro e w2 ⟨rfl, b2⟩; have B2 := Lib.hid (bBo B1.out.drew b2); have d0 := HCELL.out 0 _ rfl w2 B2.out; have d1 := HCELL.out 1 _ rfl w2 B2.out; have d2 := HCELL.out 2 _ rfl w2 B2.out; clear b2) | (go_at_call 97; refine (up_any a d l _ _).mono ?_; rintro e w3 ⟨v3, rfl, o3⟩))
   all_goals
    have O3 := Lib.hid (o3.base (bBo HB.out B2.out))
    clear o3
    go_wp2_with fail
    refine (reverse_own _ _ _ _ O3.out).mono ?_
    rintro e w4 ⟨rfl, o4⟩
    have O4 := Lib.hid o4; clear o4
    go_wp2
    go_ret
    exact ⟨_, rfl, by rw [HE.out, List.length_reverse]; exact O4.out⟩
end
section
def dn (x nd : Nat) : Nat → Nat → Nat → Option (Nat × Nat)
 | 0, f, l => if f < nd then none else some (f, l)
 | k + 1, f, l => if f < nd then (if l < nd then dn x nd k (x * f + 1) (x * l + x) else none) else some (f, l)
def dnL (x y p : Nat) : Nat × Nat := (dn x (ndN x y) 4 p p).getD (0, 0)
def underN (x y p : Nat) : List Int := (List.range ((dnL x y p).2 + 1 - (dnL x y p).1)).map fun i => (((dnL x y p).1 - ndN x y + i : Nat) : Int)
section
variable (a d l : Int)
def underI (p : Int) : List Int := if thereB a d l p then underN a.toNat d.toNat p.toNat else []
end
theorem underI_yes {a d l p : Int} (h : thereB a d l p = true) : underI a d l p = underN a.toNat d.toNat p.toNat := by unfold underI; rw [if_pos h]
theorem underI_no {a d l p : Int} (h : thereB a d l p = false) : underI a d l p = [] := by unfold underI; rw [if_neg (by rw [h]; simp)]
end
section
open Go.RowKit Go.Maps
def undR (x y p : Nat) : List Int := ((List.range (x ^ y)).filter fun s => decide (ndN x y + s = p) || (upL x ((ndN x y + s - 1) / x)).contains p).map fun (s : Nat) => (s : Int)
theorem und_run : ((List.range 5).all fun x => (List.range 4).all fun y => (List.range 85).all fun p => !(decide (2 ≤ x) && decide (1 ≤ y) && decide (p < pgN x y)) || (undR x y p == underN x y p)) = true := by decide +kernel
theorem und_all {x y p : Nat} (h1 : 2 ≤ x) (h2 : x ≤ 4) (h3 : 1 ≤ y) (h4 : y ≤ 3) (h5 : p < pgN x y) : undR x y p = underN x y p := by
 have h6 := pgN_lt h1 h2 h3 h4
 have h := List.all_eq_true.1 (List.all_eq_true.1 (List.all_eq_true.1 und_run x (List.mem_range.2 (by omega))) y (List.mem_range.2 (by omega))) p (List.mem_range.2 (by omega))
 simpa [h1, h3, h5] using h
theorem upF_le (x : Nat) : ∀ f p q, q ∈ upF x f p → q ≤ p
 | 0, p, q, h => by cases h
 | f + 1, p, q, h => by
  unfold upF at h
  rcases List.mem_cons.1 h with rfl | h
  · exact Nat.le_refl _
  · split at h
    · cases h
    · have h1 := upF_le x f _ q h
      have : (p - 1) / x ≤ p - 1 := Nat.div_le_self _ _
      omega
theorem upL_mem_le {x p q : Nat} (h : q ∈ upL x p) : q ≤ p := upF_le x _ p q h
theorem ndN_pos {x y : Nat} (hx : 1 ≤ x) (hy : 1 ≤ y) : 1 ≤ ndN x y := by
 obtain ⟨k, rfl⟩ : ∃ k, y = k + 1 := ⟨y - 1, by omega⟩
 unfold ndN
 have := Nat.pow_pos (n := k) (show 0 < x by omega)
 omega
section
variable {a d l : Int}
theorem right_of_leaf {s : Int} (h0 : 0 ≤ s) (h : s < leavesI a d l) : rightB a d l = true := by
 cases hr : rightB a d l
 · rw [leavesI_no hr] at h; omega
 · rfl
theorem way_of {s : Int} (h0 : 0 ≤ s) (h : s < leavesI a d l) : ∃ x y n : Nat, a = x ∧ d = y ∧ s = n ∧ 2 ≤ x ∧ x ≤ 4 ∧ 1 ≤ y ∧ y ≤ 3 ∧ rightB a d l = true ∧ n < x ^ y ∧ leafI a d l s = ((ndN x y + n : Nat) : Int) ∧ upI a d l (leafI a d l s) = (upL x (ndN x y + n)).map (fun (q : Nat) => (q : Int)) ∧
 pathI a d l s = ((upL x ((ndN x y + n - 1) / x)).map (fun (q : Nat) => (q : Int))).reverse ∧ upL x (ndN x y + n) = (ndN x y + n) :: upL x ((ndN x y + n - 1) / x) := by
 have hr := right_of_leaf h0 h
 obtain ⟨x, y, rfl, rfl, hx1, hx2, hy1, hy2⟩ := rightB_ok hr
 obtain ⟨n, rfl⟩ := Int.eq_ofNat_of_zero_le h0
 have hl := h
 rw [leavesI_of hr rfl rfl] at hl
 have hp := ndN_pos (show 1 ≤ x by omega) hy1
 have e1 : leafI (x : Int) y l n = ((ndN x y + n : Nat) : Int) := by unfold leafI; rw [if_pos ⟨h0, h⟩, nodesI_of hr rfl rfl]; simp
 have hpg : ((ndN x y + n : Nat) : Int) < nodesI (x : Int) y l + leavesI (x : Int) y l := by rw [nodesI_of hr rfl rfl, leavesI_of hr rfl rfl]; omega
 have hdv : (ndN x y + n - 1) / x ≤ ndN x y + n - 1 := Nat.div_le_self _ _
 have e2 : parentI (x : Int) y l ((ndN x y + n : Nat) : Int) = (((ndN x y + n - 1) / x : Nat) : Int) := by
  unfold parentI
  rw [if_pos ⟨by omega, hpg⟩]
  have : ((ndN x y + n : Nat) : Int) - 1 = ((ndN x y + n - 1 : Nat) : Int) := by omega
  rw [this]; exact (Int.natCast_ediv _ _).symm
 refine ⟨x, y, n, rfl, rfl, rfl, hx1, hx2, hy1, hy2, hr, by omega, e1, ?_, ?_, upL_pos x _ (by omega)⟩
 · rw [e1]; unfold upI; rw [if_pos (thereB_yes ⟨by omega, hpg⟩), Int.toNat_natCast, Int.toNat_natCast]
 · unfold pathI
   rw [e1, if_neg (by omega), e2]
   clear e2
   generalize (ndN x y + n - 1) / x = q at *
   unfold upI
   rw [if_pos (thereB_yes ⟨by omega, by omega⟩), Int.toNat_natCast, Int.toNat_natCast]
def undI (a d l p : Int) : List Int := ((List.range (leavesI a d l).toNat).filter fun (s : Nat) => (leafI a d l s == p) || (pathI a d l s).contains p).map fun (s : Nat) => (s : Int)
theorem mem_cast (L : List Nat) (p : Int) : p ∈ L.map (fun (q : Nat) => (q : Int)) ↔ 0 ≤ p ∧ p.toNat ∈ L := by
 constructor
 · intro h
   obtain ⟨q, hq, rfl⟩ := List.mem_map.1 h
   exact ⟨by omega, by simpa using hq⟩
 · rintro ⟨h0, h⟩
   exact List.mem_map.2 ⟨p.toNat, h, by omega⟩
theorem way_mem {s p : Int} (h0 : 0 ≤ s) (h : s < leavesI a d l) : p ∈ upI a d l (leafI a d l s) ↔ (leafI a d l s = p ∨ p ∈ pathI a d l s) := by
 obtain ⟨x, y, n, rfl, rfl, rfl, hx1, hx2, hy1, hy2, hr, hn, e1, e2, e3, e4⟩ := way_of h0 h
 rw [e2, e3, e1, e4, List.map_cons, List.mem_cons, List.mem_reverse]
 constructor
 · rintro (h | h)
   · exact .inl h.symm
   · exact .inr h
 · rintro (h | h)
   · exact .inl h.symm
   · exact .inr h
theorem way_in {s p : Int} (h0 : 0 ≤ s) (h : s < leavesI a d l) (hp : p ∈ upI a d l (leafI a d l s)) : 0 ≤ p ∧ p < nodesI a d l + leavesI a d l := by
 obtain ⟨x, y, n, rfl, rfl, rfl, hx1, hx2, hy1, hy2, hr, hn, e1, e2, e3, e4⟩ := way_of h0 h
 rw [e2, mem_cast] at hp
 have := upL_mem_le hp.2
 rw [nodesI_of hr rfl rfl, leavesI_of hr rfl rfl]
 omega
theorem undI_mem (s p : Int) : s ∈ undI a d l p ↔ (0 ≤ s ∧ s < leavesI a d l) ∧ p ∈ upI a d l (leafI a d l s) := by
 unfold undI
 rw [mem_cast, List.mem_filter, List.mem_range]
 constructor
 · rintro ⟨h0, h1, h2⟩
   have e : ((s.toNat : Nat) : Int) = s := by omega
   rw [e] at h2
   have hs : s < leavesI a d l := by omega
   refine ⟨⟨h0, hs⟩, (way_mem h0 hs).2 ?_⟩
   simpa using h2
 · rintro ⟨⟨h0, h1⟩, h2⟩
   have e : ((s.toNat : Nat) : Int) = s := by omega
   refine ⟨h0, by omega, ?_⟩
   rw [e]
   have := (way_mem h0 h1).1 h2
   simpa using this
theorem undI_eq (p : Int) : undI a d l p = underI a d l p := by
 by_cases h : 0 ≤ p ∧ p < nodesI a d l + leavesI a d l
 · have hr := right_of_pages h.1 h.2
   obtain ⟨x, y, rfl, rfl, hx1, hx2, hy1, hy2⟩ := rightB_ok hr
   obtain ⟨q, rfl⟩ := Int.eq_ofNat_of_zero_le h.1
   rw [underI_yes (thereB_yes h)]
   simp only [Int.toNat_natCast]
   rw [← und_all hx1 hx2 hy1 hy2 (page_lt hr h.2)]
   unfold undI undR
   rw [leavesI_of hr rfl rfl, Int.toNat_natCast]
   congr 1
   apply List.filter_congr
   intro s hs
   have hs' := List.mem_range.1 hs
   have h0 : (0 : Int) ≤ s := by omega
   have h1 : (s : Int) < leavesI (x : Int) y l := by rw [leavesI_of hr rfl rfl]; omega
   obtain ⟨x', y', n, ex, ey, en, _, _, _, _, _, _, e1, e2, e3, e4⟩ := way_of h0 h1
   obtain rfl : x = x' := by omega
   obtain rfl : y = y' := by omega
   obtain rfl : s = n := by omega
   rw [e1, e3]
   congr 1
   · rw [Bool.eq_iff_iff, decide_eq_true_iff, beq_iff_eq]; omega
   · rw [Bool.eq_iff_iff, List.contains_iff_mem, List.contains_iff_mem, List.mem_reverse, mem_cast]; simp
 · rw [underI_no (thereB_no h)]
   apply List.eq_nil_iff_forall_not_mem.2
   intro s hs
   obtain ⟨⟨h0, h1⟩, h2⟩ := (undI_mem s p).1 hs
   exact h (way_in h0 h1 h2)
def touR (a d l : Int) (S : List Int) (k : Nat) : List Int := ((List.range k).filter fun (p : Nat) => (underI a d l p).any fun u => S.contains u).map fun (p : Nat) => (p : Int)
theorem upI_none {p : Int} (h : p < 0) : upI a d l p = [] := by unfold upI; rw [if_neg (by rw [thereB_no (by omega)]; decide)]
theorem tou_eq (S : List Int) : sortU (S.flatMap fun s => upI a d l (leafI a d l s)) = touR a d l S (pagesI a d l).toNat := by
 refine up_uniq (sortU_up _) ?_ (fun p => ?_)
 · unfold touR
   rw [List.pairwise_map]
   exact (List.pairwise_lt_range.filter _).imp (fun {x y} h => by omega)
 · rw [sortU_mem]
   unfold touR
   rw [mem_cast, List.mem_filter, List.mem_range, List.mem_flatMap, List.any_eq_true]
   have hpg := pagesI_eq a d l
   constructor
   · rintro ⟨s, hs, hp⟩
     by_cases h : 0 ≤ s ∧ s < leavesI a d l
     · have hin := way_in h.1 h.2 hp
       have e : ((p.toNat : Nat) : Int) = p := by omega
       refine ⟨hin.1, by omega, s, ?_, List.contains_iff_mem.2 hs⟩
       rw [e, ← undI_eq]
       exact (undI_mem s p).2 ⟨h, hp⟩
     · have : leafI a d l s = -1 := by unfold leafI; rw [if_neg h]
       rw [this, upI_none (by omega)] at hp
       cases hp
   · rintro ⟨h0, h1, s, hs, hS⟩
     have e : ((p.toNat : Nat) : Int) = p := by omega
     rw [e, ← undI_eq] at hs
     exact ⟨s, List.contains_iff_mem.1 hS, ((undI_mem s p).1 hs).2⟩
end
end
end Go.Proofs.YtdkmlmbehlooiaaGreatDoor
namespace Go.Proofs
section
open Go.Shelf
def Tryz.keysB_ren : Go.Shelf.Ren := ⟨fun | 7 => 113 | 10 => 179 | n => n, fun | 23 => 147 | 26 => 3 | 3 => 3 | 28 => 92 | 0 => 0 | 27 => 91 | 33 => 150 | 4 => 4 | n => n, fun | n => n⟩
theorem Tryz.keysB : Go.Proofs.SlLaysZI.n7 Tryz.prog Tryz.keysB_ren := {
 mixed := by kernel_rfl
 f7 := ⟨Tryz.f113.name, by decide, Tryz.func113.trans (congrArg some (by kernel_rfl))⟩
 f10 := ⟨Tryz.f179.name, by decide, Tryz.func179.trans (congrArg some (by kernel_rfl))⟩
 t0 := Tryz.underlying0
 a0 := Tryz.isAgg0
 z0 := Tryz.sizeOf0
 v0 := Tryz.zeroValue0
 t4 := Tryz.underlying4
 a4 := Tryz.isAgg4
 z4 := Tryz.sizeOf4
 v4 := Tryz.zeroValue4
 t23 := Tryz.underlying147
 a23 := Tryz.isAgg147
 z23 := Tryz.sizeOf147
 v23 := Tryz.zeroValue147
 t26 := Tryz.underlying3
 a26 := Tryz.isAgg3
 z26 := Tryz.sizeOf3
 v26 := Tryz.zeroValue3
 t27 := Tryz.underlying91
 a27 := Tryz.isAgg91
 z27 := Tryz.sizeOf91
 v27 := Tryz.zeroValue91
 t28 := Tryz.underlying92
 a28 := Tryz.isAgg92
 z28 := Tryz.sizeOf92
 v28 := Tryz.zeroValue92
 t33 := Tryz.underlying150
 a33 := Tryz.isAgg150
 z33 := Tryz.sizeOf150
 v33 := Tryz.zeroValue150 }
def Tryz.keysC_ren : Go.Shelf.Ren := ⟨fun | 7 => 48 | 10 => 115 | n => n, fun | 23 => 85 | 26 => 3 | 3 => 47 | 28 => 92 | 0 => 0 | 27 => 91 | 33 => 150 | 4 => 4 | n => n, fun | n => n⟩
theorem Tryz.keysC : Go.Proofs.SlLaysZI.n7 Tryz.prog Tryz.keysC_ren := {
 mixed := by kernel_rfl
 f7 := ⟨Tryz.f48.name, by decide, Tryz.func48.trans (congrArg some (by kernel_rfl))⟩
 f10 := ⟨Tryz.f115.name, by decide, Tryz.func115.trans (congrArg some (by kernel_rfl))⟩
 t0 := Tryz.underlying0
 a0 := Tryz.isAgg0
 z0 := Tryz.sizeOf0
 v0 := Tryz.zeroValue0
 t4 := Tryz.underlying4
 a4 := Tryz.isAgg4
 z4 := Tryz.sizeOf4
 v4 := Tryz.zeroValue4
 t23 := Tryz.underlying85
 a23 := Tryz.isAgg85
 z23 := Tryz.sizeOf85
 v23 := Tryz.zeroValue85
 t26 := Tryz.underlying3
 a26 := Tryz.isAgg3
 z26 := Tryz.sizeOf3
 v26 := Tryz.zeroValue3
 t27 := Tryz.underlying91
 a27 := Tryz.isAgg91
 z27 := Tryz.sizeOf91
 v27 := Tryz.zeroValue91
 t28 := Tryz.underlying92
 a28 := Tryz.isAgg92
 z28 := Tryz.sizeOf92
 v28 := Tryz.zeroValue92
 t33 := Tryz.underlying150
 a33 := Tryz.isAgg150
 z33 := Tryz.sizeOf150
 v33 := Tryz.zeroValue150 }
def Tryz.sortedA_ren : Go.Shelf.Ren := ⟨fun | 6 => 112 | 8 => 47 | 9 => 178 | 11 => 114 | 13 => 227 | 12 => 226 | 23 => 266 | 24 => 267 | 14 => 258 | 15 => 259 | 16 => 260 | 17 => 261 | 18 => 262 | 19 => 263 | 20 => 228 | 21 => 264 | 22 => 265 | 25 => 286 | 26 => 287 | 27 => 288 | 28 => 289 | 29 => 290 | 30 => 268 | 31 => 307 | n => n, fun | 26 => 3 | 28 => 92 | 24 => 79 | 0 => 0 | 3 => 3 | 37 => 269 | 48 => 291 | 50 => 43 | 4 => 4 | 40 => 314 | 39 => 313 | 45 => 238 | 5 => 5 | 9 => 9 | 51 => 328 | 55 => 331 | 57 => 349 | 58 => 157 | 33 => 150 | n => n, fun | n => n⟩
theorem Tryz.sortedA : Go.Proofs.SlLaysZI.n6 Tryz.prog Tryz.sortedA_ren := {
 mixed := by kernel_rfl
 f6 := ⟨Tryz.f112.name, by decide, Tryz.func112.trans (congrArg some (by kernel_rfl))⟩
 f8 := ⟨Tryz.f47.name, by decide, Tryz.func47.trans (congrArg some (by kernel_rfl))⟩
 f11 := ⟨Tryz.f114.name, by decide, Tryz.func114.trans (congrArg some (by kernel_rfl))⟩
 t0 := Tryz.underlying0
 a0 := Tryz.isAgg0
 z0 := Tryz.sizeOf0
 v0 := Tryz.zeroValue0
 t24 := Tryz.underlying79
 a24 := Tryz.isAgg79
 z24 := Tryz.sizeOf79
 v24 := Tryz.zeroValue79
 t26 := Tryz.underlying3
 a26 := Tryz.isAgg3
 z26 := Tryz.sizeOf3
 v26 := Tryz.zeroValue3
 t28 := Tryz.underlying92
 a28 := Tryz.isAgg92
 z28 := Tryz.sizeOf92
 v28 := Tryz.zeroValue92
 i26 := by kernel_rfl }
def Tryz.collectA_ren : Go.Shelf.Ren := ⟨fun | 8 => 47 | 11 => 114 | n => n, fun | 26 => 3 | 28 => 92 | 24 => 79 | 0 => 0 | 33 => 150 | 4 => 4 | n => n, fun | n => n⟩
theorem Tryz.collectA : Go.Proofs.SlLaysZI.n8 Tryz.prog Tryz.collectA_ren := {
 mixed := by kernel_rfl
 f8 := ⟨Tryz.f47.name, by decide, Tryz.func47.trans (congrArg some (by kernel_rfl))⟩
 f11 := ⟨Tryz.f114.name, by decide, Tryz.func114.trans (congrArg some (by kernel_rfl))⟩
 t0 := Tryz.underlying0
 a0 := Tryz.isAgg0
 z0 := Tryz.sizeOf0
 v0 := Tryz.zeroValue0
 t24 := Tryz.underlying79
 a24 := Tryz.isAgg79
 z24 := Tryz.sizeOf79
 v24 := Tryz.zeroValue79
 t26 := Tryz.underlying3
 a26 := Tryz.isAgg3
 z26 := Tryz.sizeOf3
 v26 := Tryz.zeroValue3
 t28 := Tryz.underlying92
 a28 := Tryz.isAgg92
 z28 := Tryz.sizeOf92
 v28 := Tryz.zeroValue92
 i26 := by kernel_rfl }
def Tryz.sortA_ren : Go.Shelf.Ren := ⟨fun | 5 => 178 | 8 => 227 | 7 => 226 | 19 => 266 | 20 => 267 | 10 => 258 | 11 => 259 | 12 => 260 | 13 => 261 | 14 => 262 | 15 => 263 | 16 => 228 | 17 => 264 | 18 => 265 | 30 => 286 | 31 => 287 | 32 => 288 | 33 => 289 | 34 => 290 | 35 => 268 | 40 => 307 | n => n, fun | 23 => 79 | 25 => 3 | 3 => 3 | 32 => 269 | 22 => 79 | 0 => 0 | 44 => 291 | 46 => 43 | 4 => 4 | 36 => 314 | 35 => 313 | 41 => 238 | 5 => 5 | 9 => 9 | 53 => 328 | 57 => 331 | 63 => 349 | 64 => 157 | n => n, fun | n => n⟩
theorem Tryz.sortA : Go.Proofs.SlLaysM.n5 Tryz.prog Tryz.sortA_ren := {
 mixed := by kernel_rfl
 f5 := ⟨Tryz.f178.name, by decide, Tryz.func178.trans (congrArg some (by kernel_rfl))⟩
 f7 := ⟨Tryz.f226.name, by decide, Tryz.func226.trans (congrArg some (by kernel_rfl))⟩
 f8 := Tryz.func227.trans (congrArg some (by kernel_rfl))
 f10 := ⟨Tryz.f258.name, by decide, Tryz.func258.trans (congrArg some (by kernel_rfl))⟩
 f11 := ⟨Tryz.f259.name, by decide, Tryz.func259.trans (congrArg some (by kernel_rfl))⟩
 f12 := ⟨Tryz.f260.name, by decide, Tryz.func260.trans (congrArg some (by kernel_rfl))⟩
 f13 := ⟨Tryz.f261.name, by decide, Tryz.func261.trans (congrArg some (by kernel_rfl))⟩
 f14 := ⟨Tryz.f262.name, by decide, Tryz.func262.trans (congrArg some (by kernel_rfl))⟩
 f15 := ⟨Tryz.f263.name, by decide, Tryz.func263.trans (congrArg some (by kernel_rfl))⟩
 f16 := ⟨Tryz.f228.name, by decide, Tryz.func228.trans (congrArg some (by kernel_rfl))⟩
 f17 := ⟨Tryz.f264.name, by decide, Tryz.func264.trans (congrArg some (by kernel_rfl))⟩
 f18 := ⟨Tryz.f265.name, by decide, Tryz.func265.trans (congrArg some (by kernel_rfl))⟩
 f19 := Tryz.func266.trans (congrArg some (by kernel_rfl))
 f20 := Tryz.func267.trans (congrArg some (by kernel_rfl))
 f30 := ⟨Tryz.f286.name, by decide, Tryz.func286.trans (congrArg some (by kernel_rfl))⟩
 f31 := Tryz.func287.trans (congrArg some (by kernel_rfl))
 f32 := Tryz.func288.trans (congrArg some (by kernel_rfl))
 f33 := ⟨Tryz.f289.name, by decide, Tryz.func289.trans (congrArg some (by kernel_rfl))⟩
 f34 := ⟨Tryz.f290.name, by decide, Tryz.func290.trans (congrArg some (by kernel_rfl))⟩
 f35 := ⟨Tryz.f268.name, by decide, Tryz.func268.trans (congrArg some (by kernel_rfl))⟩
 f40 := ⟨Tryz.f307.name, by decide, Tryz.func307.trans (congrArg some (by kernel_rfl))⟩
 t0 := Tryz.underlying0
 a0 := Tryz.isAgg0
 z0 := Tryz.sizeOf0
 v0 := Tryz.zeroValue0
 t3 := Tryz.underlying3
 a3 := Tryz.isAgg3
 z3 := Tryz.sizeOf3
 v3 := Tryz.zeroValue3
 t4 := Tryz.underlying4
 a4 := Tryz.isAgg4
 z4 := Tryz.sizeOf4
 v4 := Tryz.zeroValue4
 t5 := Tryz.underlying5
 a5 := Tryz.isAgg5
 z5 := Tryz.sizeOf5
 v5 := Tryz.zeroValue5
 t9 := Tryz.underlying9
 a9 := Tryz.isAgg9
 z9 := Tryz.sizeOf9
 v9 := Tryz.zeroValue9
 t22 := Tryz.underlying79
 a22 := Tryz.isAgg79
 z22 := Tryz.sizeOf79
 v22 := Tryz.zeroValue79
 t23 := Tryz.underlying79
 a23 := Tryz.isAgg79
 z23 := Tryz.sizeOf79
 v23 := Tryz.zeroValue79
 t25 := Tryz.underlying3
 a25 := Tryz.isAgg3
 z25 := Tryz.sizeOf3
 v25 := Tryz.zeroValue3
 t32 := Tryz.underlying269
 a32 := Tryz.isAgg269
 z32 := Tryz.sizeOf269
 v32 := Tryz.zeroValue269
 t35 := Tryz.underlying313
 a35 := Tryz.isAgg313
 z35 := Tryz.sizeOf313
 v35 := Tryz.zeroValue313
 t36 := Tryz.underlying314
 a36 := Tryz.isAgg314
 z36 := Tryz.sizeOf314
 v36 := Tryz.zeroValue314
 t41 := Tryz.underlying238
 a41 := Tryz.isAgg238
 z41 := Tryz.sizeOf238
 v41 := Tryz.zeroValue238
 t44 := Tryz.underlying291
 a44 := Tryz.isAgg291
 z44 := Tryz.sizeOf291
 v44 := Tryz.zeroValue291
 t46 := Tryz.underlying43
 a46 := Tryz.isAgg43
 z46 := Tryz.sizeOf43
 v46 := Tryz.zeroValue43
 t53 := Tryz.underlying328
 a53 := Tryz.isAgg328
 z53 := Tryz.sizeOf328
 v53 := Tryz.zeroValue328
 t57 := Tryz.underlying331
 a57 := Tryz.isAgg331
 z57 := Tryz.sizeOf331
 v57 := Tryz.zeroValue331
 t63 := Tryz.underlying349
 a63 := Tryz.isAgg349
 z63 := Tryz.sizeOf349
 v63 := Tryz.zeroValue349
 t64 := Tryz.underlying157
 a64 := Tryz.isAgg157
 z64 := Tryz.sizeOf157
 v64 := Tryz.zeroValue157 }
end
end Go.Proofs
namespace Go.Proofs.YtdkmlmbehlooiaaGreatDoor
section
open Go.RowKit Go.Maps
theorem keyed3 : Keyed Tryz.prog 3 := int_keyed Tryz.underlying3
theorem wf_i64 {x : Int} (h1 : -9223372036854775808 ≤ x) (h2 : x ≤ 9223372036854775807) : (Lit.int .i64 x).wf = true := by
 simp [Lit.wf, IntKind.min, IntKind.max, IntKind.signed, IntKind.bits]; omega
theorem sortsA (m : Nat) : AnyZI.SortsIn Tryz.prog Tryz.sortedA_ren Fence.wide m :=
 ⟨fun blk off cap ss W hH hblk hsz => callsIn_wide.2 (AnyM.slices_Sort_int Tryz.sortA blk off cap ss W hH hblk hsz),
  fun p cap W => callsIn_wide.2 (AnyM.slices_Sort_int_none Tryz.sortA p cap W)⟩
end
end Go.Proofs.YtdkmlmbehlooiaaGreatDoor
