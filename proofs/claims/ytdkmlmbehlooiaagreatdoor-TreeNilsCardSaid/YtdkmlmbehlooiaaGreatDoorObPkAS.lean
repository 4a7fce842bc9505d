/- Own texts, one behind the other. No condition. -/
import Derived.Test.YtdkmlmbehlooiaaGreatDoorObPkAR
set_option linter.unusedVariables false
set_option linter.unusedSimpArgs false
namespace Go.Proofs.YtdkmlmbehlooiaaGreatDoor
section
open Go.RowKit
theorem pagesI_eq (a d l : Int) : pagesI a d l = nodesI a d l + leavesI a d l := rfl
theorem geoThere_any (a d l p : Int) (w : World) :
 Calls Tryz.prog 109 #[.agg #[.int .i64 a, .int .i64 d, .int .i64 l], .int .i64 p] w (RetGB w (thereB a d l p)) := by
 have hb : Below w.heap.size w (w.alloc (.cells #[.int .i64 a, .int .i64 d, .int .i64 l] 23)) := (Below.refl _ _).alloc (Nat.le_refl _) _
 have hc := (Blk.new w 23 #[.int .i64 a, .int .i64 d, .int .i64 l])
 obtain ⟨wl, hwl⟩ : ∃ wl, wl = w.alloc (.cells #[.int .i64 a, .int .i64 d, .int .i64 l] 23) := ⟨_, rfl⟩
 rw [← hwl] at hb hc
 have HB := Lib.hid hb; have HWL := Lib.hid hwl; clear hb hwl
 have HCELL : Hid (∀ (i : Nat) (v : Value), [Value.int .i64 a, .int .i64 d, .int .i64 l][i]? = some v → ∀ wq, Below wl.heap.size wl wq → wq.cell? ⟨w.heap.size, i, none⟩ = some v) := by
  intro i v hv wq hq
  rw [hq.cell (p := ⟨w.heap.size, i, none⟩) hc.lt, hc.cell]
  exact hv
 clear hc
 by_cases h0 : 0 ≤ p
 · have t1 : decide (0 ≤ p) = true := by simpa using h0
   have HE : Hid (decide (p < pagesI a d l) = thereB a d l p) := by show _ = _; unfold thereB; rw [pagesI_eq]; simp [h0]
   go_enter Tryz.func109, Tryz.ntmps109
   go_wp2_with fail
   rw [← HWL.out]
   refine (pages_any a d l _).mono ?_
   rintro e w1 ⟨rfl, b1⟩
   have B1 := Lib.hid (bBo HB.out b1); clear b1
   go_wp2
   go_ret
   exact ⟨ret_bool HE.out, B1.out⟩
 · have t1 : decide (0 ≤ p) = false := by simpa using h0
   have HE : Hid (thereB a d l p = false) := by show _ = _; unfold thereB; simp [h0]
   go_enter Tryz.func109, Tryz.ntmps109
   go_wp2_with fail
   rw [← HWL.out]
   go_ret
   exact ⟨ret_bool HE.out.symm, HB.out⟩
theorem mul_bounds {a n A N : Int} (h0 : 0 ≤ a) (h1 : a ≤ A) (h2 : 0 ≤ n) (h3 : n ≤ N) : 0 ≤ a * n ∧ a * n ≤ A * N :=
 ⟨Int.mul_nonneg h0 h2, Int.le_trans (Int.mul_le_mul_of_nonneg_right h1 h2) (Int.mul_le_mul_of_nonneg_left h3 (by omega))⟩
theorem right_of_nodes {a d l n : Int} (h0 : 0 ≤ n) (h : n < nodesI a d l) : 2 ≤ a ∧ a ≤ 4 := by
 cases hr : rightB a d l
 · rw [nodesI_no hr] at h; omega
 · obtain ⟨x, y, rfl, rfl, hx1, hx2, hy1, hy2⟩ := rightB_ok hr; omega
theorem right_of_pages {a d l n : Int} (h0 : 0 ≤ n) (h : n < nodesI a d l + leavesI a d l) : rightB a d l = true := by
 cases hr : rightB a d l
 · rw [nodesI_no hr, leavesI_no hr] at h; omega
 · rfl
set_option maxHeartbeats 1000000 in
theorem child_any (a d l n k : Int) (w : World) :
 Calls Tryz.prog 117 #[.agg #[.int .i64 a, .int .i64 d, .int .i64 l], .int .i64 n, .int .i64 k] w (RetI w (childI a d l n k)) := by
 have hb : Below w.heap.size w (w.alloc (.cells #[.int .i64 a, .int .i64 d, .int .i64 l] 23)) := (Below.refl _ _).alloc (Nat.le_refl _) _
 have hc := (Blk.new w 23 #[.int .i64 a, .int .i64 d, .int .i64 l])
 obtain ⟨wl, hwl⟩ : ∃ wl, wl = w.alloc (.cells #[.int .i64 a, .int .i64 d, .int .i64 l] 23) := ⟨_, rfl⟩
 rw [← hwl] at hb hc
 have HB := Lib.hid hb; have HWL := Lib.hid hwl; clear hb hwl
 have HCELL : Hid (∀ (i : Nat) (v : Value), [Value.int .i64 a, .int .i64 d, .int .i64 l][i]? = some v → ∀ wq, Below wl.heap.size wl wq → wq.cell? ⟨w.heap.size, i, none⟩ = some v) := by
  intro i v hv wq hq
  rw [hq.cell (p := ⟨w.heap.size, i, none⟩) hc.lt, hc.cell]
  exact hv
 clear hc
 have hn := nodes_le a d l
 by_cases hy : 0 ≤ n ∧ n < nodesI a d l ∧ 0 ≤ k ∧ k < a
 · have HE : Hid (childI a d l n k = a * n + 1 + k) := by show _ = _; unfold childI; rw [if_pos hy]
   obtain ⟨h0, h1, h2, h3⟩ := hy
   obtain ⟨ha1, ha2⟩ := right_of_nodes h0 h1
   have hm := mul_bounds (show 0 ≤ a by omega) ha2 h0 (show n ≤ 200 by omega)
   have t1 : decide (n < 0) = false := by simp; omega
   have t2 : decide (nodesI a d l ≤ n) = false := by simp; omega
   have t3 : decide (k < 0) = false := by simp; omega
   have t4 : decide (a ≤ k) = false := by simp; omega
   go_enter Tryz.func117, Tryz.ntmps117
   go_wp2_with fail
   rw [← HWL.out]
   refine (nodes_any a d l _).mono ?_
   rintro e w1 ⟨rfl, b1⟩
   have c0 := HCELL.out 0 _ rfl w1 b1
   have c1 := HCELL.out 1 _ rfl w1 b1
   have c2 := HCELL.out 2 _ rfl w1 b1
   have B1 := Lib.hid (bBo HB.out b1); clear b1
   go_wp2
   go_ret
   exact ⟨ret_int HE.out.symm, B1.out⟩
 · have HE : Hid (childI a d l n k = -1) := by show _ = _; unfold childI; rw [if_neg hy]
   by_cases h0 : n < 0
   · have t1 : decide (n < 0) = true := by simpa using h0
     clear hy
     go_enter Tryz.func117, Tryz.ntmps117
     go_wp2_with fail
     rw [← HWL.out]
     go_ret
     exact ⟨ret_int HE.out.symm, HB.out⟩
   · have t1 : decide (n < 0) = false := by simpa using h0
     by_cases h1 : nodesI a d l ≤ n
     case' pos => have t2 : decide (nodesI a d l ≤ n) = true := by simpa using h1
     case' neg =>
      have t2 : decide (nodesI a d l ≤ n) = false := by simpa using h1
      by_cases h2 : k < 0
      case' pos => have t3 : decide (k < 0) = true := by simpa using h2
      case' neg =>
       have t3 : decide (k < 0) = false := by simpa using h2
       have t4 : decide (a ≤ k) = true := by simp; omega
     all_goals
      clear hy
      go_enter Tryz.func117, Tryz.ntmps117
      go_wp2_with fail
      rw [← HWL.out]
      refine (nodes_any a d l _).mono ?_
      rintro e w1 ⟨rfl, b1⟩
      have c0 := HCELL.out 0 _ rfl w1 b1
      have c1 := HCELL.out 1 _ rfl w1 b1
      have c2 := HCELL.out 2 _ rfl w1 b1
      have B1 := Lib.hid (bBo HB.out b1); clear b1
      go_wp2
      go_ret
      exact ⟨ret_int HE.out.symm, B1.out⟩
theorem thereB_yes {a d l p : Int} (h : 0 ≤ p ∧ p < nodesI a d l + leavesI a d l) : thereB a d l p = true := by unfold thereB; simpa using h
theorem thereB_no {a d l p : Int} (h : ¬ (0 ≤ p ∧ p < nodesI a d l + leavesI a d l)) : thereB a d l p = false := by unfold thereB; simp; omega
set_option maxHeartbeats 1000000 in
theorem parent_any (a d l p : Int) (w : World) :
 Calls Tryz.prog 98 #[.agg #[.int .i64 a, .int .i64 d, .int .i64 l], .int .i64 p] w (RetI w (parentI a d l p)) := by
 have hb : Below w.heap.size w (w.alloc (.cells #[.int .i64 a, .int .i64 d, .int .i64 l] 23)) := (Below.refl _ _).alloc (Nat.le_refl _) _
 have hc := (Blk.new w 23 #[.int .i64 a, .int .i64 d, .int .i64 l])
 obtain ⟨wl, hwl⟩ : ∃ wl, wl = w.alloc (.cells #[.int .i64 a, .int .i64 d, .int .i64 l] 23) := ⟨_, rfl⟩
 rw [← hwl] at hb hc
 have HB := Lib.hid hb; have HWL := Lib.hid hwl; clear hb hwl
 have HCELL : Hid (∀ (i : Nat) (v : Value), [Value.int .i64 a, .int .i64 d, .int .i64 l][i]? = some v → ∀ wq, Below wl.heap.size wl wq → wq.cell? ⟨w.heap.size, i, none⟩ = some v) := by
  intro i v hv wq hq
  rw [hq.cell (p := ⟨w.heap.size, i, none⟩) hc.lt, hc.cell]
  exact hv
 clear hc
 have n1 := nodes_le a d l
 have n2 := leaves_le a d l
 by_cases hy : 1 ≤ p ∧ p < nodesI a d l + leavesI a d l
 · have HE : Hid (parentI a d l p = (p - 1) / a) := by show _ = _; unfold parentI; rw [if_pos hy]
   obtain ⟨h0, h1⟩ := hy
   have ht := thereB_yes (a := a) (d := d) (l := l) (p := p) ⟨by omega, h1⟩
   obtain ⟨x, y, rfl, rfl, hx1, hx2, hy1, hy2⟩ := rightB_ok (right_of_pages (show 0 ≤ p by omega) h1)
   have t1 : (p == 0) = false := by simp; omega
   have t2 : ((x : Int) == 0) = false := by simp; omega
   go_enter Tryz.func98, Tryz.ntmps98
   go_wp2_with fail
   rw [← HWL.out]
   refine (geoThere_any _ _ l p _).mono ?_
   rintro e w1 ⟨rfl, b1⟩
   rw [ht]
   have c0 := HCELL.out 0 _ rfl w1 b1
   have c1 := HCELL.out 1 _ rfl w1 b1
   have c2 := HCELL.out 2 _ rfl w1 b1
   have B1 := Lib.hid (bBo HB.out b1); clear b1 ht
   go_wp2
   go_ret
   exact ⟨ret_int HE.out.symm, B1.out⟩
 · have HE : Hid (parentI a d l p = -1) := by show _ = _; unfold parentI; rw [if_neg hy]
   by_cases h0 : 0 ≤ p ∧ p < nodesI a d l + leavesI a d l
   case' pos =>
    have ht := thereB_yes h0
    have t1 : (p == 0) = true := by simp; omega
   case' neg => have ht := thereB_no h0
   all_goals
    clear hy h0
    go_enter Tryz.func98, Tryz.ntmps98
    go_wp2_with fail
    rw [← HWL.out]
    refine (geoThere_any _ _ l p _).mono ?_
    rintro e w1 ⟨rfl, b1⟩
    rw [ht]
    have B1 := Lib.hid (bBo HB.out b1); clear b1 ht
    go_wp2
    go_ret
    exact ⟨ret_int HE.out.symm, B1.out⟩
set_option maxHeartbeats 1000000 in
theorem which_any (a d l p : Int) (w : World) :
 Calls Tryz.prog 43 #[.agg #[.int .i64 a, .int .i64 d, .int .i64 l], .int .i64 p] w (RetI w (whichI a d l p)) := by
 have hb : Below w.heap.size w (w.alloc (.cells #[.int .i64 a, .int .i64 d, .int .i64 l] 23)) := (Below.refl _ _).alloc (Nat.le_refl _) _
 have hc := (Blk.new w 23 #[.int .i64 a, .int .i64 d, .int .i64 l])
 obtain ⟨wl, hwl⟩ : ∃ wl, wl = w.alloc (.cells #[.int .i64 a, .int .i64 d, .int .i64 l] 23) := ⟨_, rfl⟩
 rw [← hwl] at hb hc
 have HB := Lib.hid hb; have HWL := Lib.hid hwl; clear hb hwl
 have HCELL : Hid (∀ (i : Nat) (v : Value), [Value.int .i64 a, .int .i64 d, .int .i64 l][i]? = some v → ∀ wq, Below wl.heap.size wl wq → wq.cell? ⟨w.heap.size, i, none⟩ = some v) := by
  intro i v hv wq hq
  rw [hq.cell (p := ⟨w.heap.size, i, none⟩) hc.lt, hc.cell]
  exact hv
 clear hc
 have n1 := nodes_le a d l
 have n2 := leaves_le a d l
 by_cases hy : 1 ≤ p ∧ p < nodesI a d l + leavesI a d l
 · have HE : Hid (whichI a d l p = (p - 1) % a) := by show _ = _; unfold whichI; rw [if_pos hy]
   obtain ⟨h0, h1⟩ := hy
   have ht := thereB_yes (a := a) (d := d) (l := l) (p := p) ⟨by omega, h1⟩
   obtain ⟨x, y, rfl, rfl, hx1, hx2, hy1, hy2⟩ := rightB_ok (right_of_pages (show 0 ≤ p by omega) h1)
   have t1 : (p == 0) = false := by simp; omega
   have t2 : ((x : Int) == 0) = false := by simp; omega
   go_enter Tryz.func43, Tryz.ntmps43
   go_wp2_with fail
   rw [← HWL.out]
   refine (geoThere_any _ _ l p _).mono ?_
   rintro e w1 ⟨rfl, b1⟩
   rw [ht]
   have c0 := HCELL.out 0 _ rfl w1 b1
   have c1 := HCELL.out 1 _ rfl w1 b1
   have c2 := HCELL.out 2 _ rfl w1 b1
   have B1 := Lib.hid (bBo HB.out b1); clear b1 ht
   go_wp2
   go_ret
   exact ⟨ret_int HE.out.symm, B1.out⟩
 · have HE : Hid (whichI a d l p = -1) := by show _ = _; unfold whichI; rw [if_neg hy]
   by_cases h0 : 0 ≤ p ∧ p < nodesI a d l + leavesI a d l
   case' pos =>
    have ht := thereB_yes h0
    have t1 : (p == 0) = true := by simp; omega
   case' neg => have ht := thereB_no h0
   all_goals
    clear hy h0
    go_enter Tryz.func43, Tryz.ntmps43
    go_wp2_with fail
    rw [← HWL.out]
    refine (geoThere_any _ _ l p _).mono ?_
    rintro e w1 ⟨rfl, b1⟩
    rw [ht]
    have B1 := Lib.hid (bBo HB.out b1); clear b1 ht
    go_wp2
    go_ret
    exact ⟨ret_int HE.out.symm, B1.out⟩
theorem upI_yes {a d l p : Int} (h : thereB a d l p = true) : upI a d l p = (upL a.toNat p.toNat).map fun (n : Nat) => (n : Int) := by unfold upI; rw [if_pos h]
theorem upI_no {a d l p : Int} (h : thereB a d l p = false) : upI a d l p = [] := by unfold upI; rw [if_neg (by rw [h]; simp)]
set_option maxRecDepth 100000 in
set_option maxHeartbeats 1000000 in
theorem up_any (a d l p : Int) (w : World) :
 Calls Tryz.prog 97 #[.agg #[.int .i64 a, .int .i64 d, .int .i64 l], .int .i64 p] w (RetIs w (upI a d l p)) := by
 have hb : Below w.heap.size w (w.alloc (.cells #[.int .i64 a, .int .i64 d, .int .i64 l] 23)) := (Below.refl _ _).alloc (Nat.le_refl _) _
 have hc := (Blk.new w 23 #[.int .i64 a, .int .i64 d, .int .i64 l])
 obtain ⟨wl, hwl⟩ : ∃ wl, wl = w.alloc (.cells #[.int .i64 a, .int .i64 d, .int .i64 l] 23) := ⟨_, rfl⟩
 rw [← hwl] at hb hc
 have HB := Lib.hid hb; have HWL := Lib.hid hwl; clear hb hwl
 have HCELL : Hid (∀ (i : Nat) (v : Value), [Value.int .i64 a, .int .i64 d, .int .i64 l][i]? = some v → ∀ wq, Below wl.heap.size wl wq → wq.cell? ⟨w.heap.size, i, none⟩ = some v) := by
  intro i v hv wq hq
  rw [hq.cell (p := ⟨w.heap.size, i, none⟩) hc.lt, hc.cell]
  exact hv
 clear hc
 have n1 := nodes_le a d l
 have n2 := leaves_le a d l
 by_cases h0 : 0 ≤ p ∧ p < nodesI a d l + leavesI a d l
 · have ht := thereB_yes h0
   have HU := Lib.hid (upI_yes ht)
   obtain ⟨h0, h1⟩ := h0
   have hr := right_of_pages h0 h1
   obtain ⟨x, y, rfl, rfl, hx1, hx2, hy1, hy2⟩ := rightB_ok hr
   obtain ⟨P, rfl⟩ := Int.eq_ofNat_of_zero_le h0
   go_enter Tryz.func97, Tryz.ntmps97
   go_wp2_with fail
   go_step3
   go_wp2_with fail
   rw [← HWL.out]
   refine (geoThere_any _ _ l _ _).mono ?_
   rintro e w1 ⟨rfl, b1⟩
   rw [ht]
   have B1 := Lib.hid b1; clear b1 ht hr
   go_wp2
   go_step3
   go_wp2
   go_loopw [1, 4] (fun pg v wr => ∃ (q : Nat) (acc : List Nat), pg = .int .i64 q ∧ q ≤ P ∧ acc ++ upL x q = upL x P ∧ Own wl wr 3 1 v acc.length ((acc.map fun (n : Nat) => (n : Int)).map i64c)) (fun pg _ _ => (intOf pg).toNat)
   case atStart => exact ⟨P, [], rfl, Nat.le_refl _, rfl, Own.nil' B1.out _ _⟩
   case round =>
    obtain ⟨q, acc, rfl, hq, hacc, hown⟩ := hrel
    have hal : acc.length ≤ 300 := by
     have h := congrArg List.length hacc
     have h2 := upL_le x P
     rw [List.length_append] at h
     omega
    have HA := Lib.hid hacc; clear hacc
    have HNEW : Hid (((acc ++ [q]).map fun (n : Nat) => (n : Int)).map i64c = (acc.map fun (n : Nat) => (n : Int)).map i64c ++ [.int .i64 (q : Int)]) := by show _ = _; simp [i64c]
    by_cases hz : q = 0
    · subst hz
      go_wp2_with (at_builtin; refine wpList_push rfl _ _ 79 rfl tNums rfl hown #[.int .i64 0] rfl rfl (one_int _ _) (by omega) ?_; intro v1 w2 own1)
      go_ret
      refine ⟨_, rfl, ?_⟩
      rw [HU.out, Int.toNat_natCast, Int.toNat_natCast, ← HA.out, upL_zero, HNEW.out]
      have := own1.base HB.out
      simpa using this
    · have t1 : ((q : Int) == 0) = false := by simp; omega
      have HP : Hid (parentI (x : Int) y l q = ((q - 1) / x : Nat)) := by
       show _ = _
       unfold parentI
       rw [if_pos ⟨by omega, by omega⟩]
       have : ((q : Int) - 1) = ((q - 1 : Nat) : Int) := by omega
       rw [this]; rfl
      have hdiv : (q - 1) / x ≤ q - 1 := Nat.div_le_self _ _
      have HS := Lib.hid (upL_pos x q (by omega))
      have HBX := Lib.hid hown.below
      go_wp2_with (first | (at_builtin; refine wpList_push rfl _ _ 79 rfl tNums rfl hown #[.int .i64 q] rfl rfl (one_int _ _) (by omega) ?_; intro v1 w2 own1; have c0 := HCELL.out 0 _ rfl w2 own1.below; have c1 := HCELL.out 1 _ rfl w2 own1.below; have c2 := HCELL.out 2 _ rfl w2 own1.below) | (go_at_call 98; refine (parent_any _ _ l _ _).mono ?_; rintro e w3 ⟨rfl, b3⟩; rw [HP.out]))
      go_roundw
      case rel =>
       refine ⟨(q - 1) / x, acc ++ [q], rfl, by omega, ?_, ?_⟩
       · rw [← HA.out, HS.out]; simp
       · rw [HNEW.out, List.length_append]
         exact own1.mono b3
      case measure => simp [intOf]; omega
 · have ht := thereB_no h0
   have HU := Lib.hid (upI_no ht)
   clear h0
   go_enter Tryz.func97, Tryz.ntmps97
   go_wp2_with fail
   go_step3
   go_wp2_with fail
   rw [← HWL.out]
   refine (geoThere_any _ _ l _ _).mono ?_
   rintro e w1 ⟨rfl, b1⟩
   rw [ht]
   have B1 := Lib.hid (bBo HB.out b1); clear b1 ht
   go_wp2
   rw [Exit.noGoto_ret]
   go_ret
   exact ⟨_, rfl, by rw [HU.out]; exact Own.nil' B1.out _ _⟩
set_option maxHeartbeats 1000000 in
theorem leaf_any (a d l p : Int) (w : World) :
 Calls Tryz.prog 37 #[.agg #[.int .i64 a, .int .i64 d, .int .i64 l], .int .i64 p] w (RetI w (leafI a d l p)) := by
 have hb : Below w.heap.size w (w.alloc (.cells #[.int .i64 a, .int .i64 d, .int .i64 l] 23)) := (Below.refl _ _).alloc (Nat.le_refl _) _
 have hc := (Blk.new w 23 #[.int .i64 a, .int .i64 d, .int .i64 l])
 obtain ⟨wl, hwl⟩ : ∃ wl, wl = w.alloc (.cells #[.int .i64 a, .int .i64 d, .int .i64 l] 23) := ⟨_, rfl⟩
 rw [← hwl] at hb hc
 have HB := Lib.hid hb; have HWL := Lib.hid hwl; clear hb hwl
 have HCELL : Hid (∀ (i : Nat) (v : Value), [Value.int .i64 a, .int .i64 d, .int .i64 l][i]? = some v → ∀ wq, Below wl.heap.size wl wq → wq.cell? ⟨w.heap.size, i, none⟩ = some v) := by
  intro i v hv wq hq
  rw [hq.cell (p := ⟨w.heap.size, i, none⟩) hc.lt, hc.cell]
  exact hv
 clear hc
 have n1 := nodes_le a d l
 have n2 := leaves_le a d l
 by_cases hy : 0 ≤ p ∧ p < leavesI a d l
 · have HE : Hid (leafI a d l p = nodesI a d l + p) := by show _ = _; unfold leafI; rw [if_pos hy]
   have t1 : decide (p < 0) = false := by simp; omega
   have t2 : decide (leavesI a d l ≤ p) = false := by simp; omega
   go_enter Tryz.func37, Tryz.ntmps37
   go_wp2_with fail
   rw [← HWL.out]
   refine (leaves_any a d l _).mono ?_
   rintro e w1 ⟨rfl, b1⟩
   have c0 := HCELL.out 0 _ rfl w1 b1
   have c1 := HCELL.out 1 _ rfl w1 b1
   have c2 := HCELL.out 2 _ rfl w1 b1
   have B1 := Lib.hid (bBo HB.out b1); clear b1
   go_wp2_with fail
   refine (nodes_any a d l _).mono ?_
   rintro e w2 ⟨rfl, b2⟩
   have B2 := Lib.hid (bBo B1.out b2); clear b2
   go_wp2
   go_ret
   exact ⟨ret_int HE.out.symm, B2.out⟩
 · have HE : Hid (leafI a d l p = -1) := by show _ = _; unfold leafI; rw [if_neg hy]
   by_cases h0 : p < 0
   · have t1 : decide (p < 0) = true := by simpa using h0
     clear hy
     go_enter Tryz.func37, Tryz.ntmps37
     go_wp2_with fail
     rw [← HWL.out]
     go_ret
     exact ⟨ret_int HE.out.symm, HB.out⟩
   · have t1 : decide (p < 0) = false := by simpa using h0
     have t2 : decide (leavesI a d l ≤ p) = true := by simp; omega
     clear hy
     go_enter Tryz.func37, Tryz.ntmps37
     go_wp2_with fail
     rw [← HWL.out]
     refine (leaves_any a d l _).mono ?_
     rintro e w1 ⟨rfl, b1⟩
     have B1 := Lib.hid (bBo HB.out b1); clear b1
     go_wp2
     go_ret
     exact ⟨ret_int HE.out.symm, B1.out⟩
set_option maxHeartbeats 1000000 in
theorem slot_any (a d l p : Int) (w : World) :
 Calls Tryz.prog 141 #[.agg #[.int .i64 a, .int .i64 d, .int .i64 l], .int .i64 p] w (RetI w (slotI a d l p)) := by
 have hb : Below w.heap.size w (w.alloc (.cells #[.int .i64 a, .int .i64 d, .int .i64 l] 23)) := (Below.refl _ _).alloc (Nat.le_refl _) _
 have hc := (Blk.new w 23 #[.int .i64 a, .int .i64 d, .int .i64 l])
 obtain ⟨wl, hwl⟩ : ∃ wl, wl = w.alloc (.cells #[.int .i64 a, .int .i64 d, .int .i64 l] 23) := ⟨_, rfl⟩
 rw [← hwl] at hb hc
 have HB := Lib.hid hb; have HWL := Lib.hid hwl; clear hb hwl
 have HCELL : Hid (∀ (i : Nat) (v : Value), [Value.int .i64 a, .int .i64 d, .int .i64 l][i]? = some v → ∀ wq, Below wl.heap.size wl wq → wq.cell? ⟨w.heap.size, i, none⟩ = some v) := by
  intro i v hv wq hq
  rw [hq.cell (p := ⟨w.heap.size, i, none⟩) hc.lt, hc.cell]
  exact hv
 clear hc
 have n1 := nodes_le a d l
 have n2 := leaves_le a d l
 by_cases h0 : 0 ≤ p ∧ p < nodesI a d l + leavesI a d l
 · have ht := thereB_yes h0
   by_cases hy : nodesI a d l ≤ p
   · have HE : Hid (slotI a d l p = p - nodesI a d l) := by show _ = _; unfold slotI; rw [if_pos ⟨h0.1, hy, h0.2⟩]
     have t2 : decide (p < nodesI a d l) = false := by simp; omega
     go_enter Tryz.func141, Tryz.ntmps141
     go_wp2_with fail
     rw [← HWL.out]
     refine (geoThere_any a d l p _).mono ?_
     rintro e w1 ⟨rfl, b1⟩
     rw [ht]
     have c0 := HCELL.out 0 _ rfl w1 b1
     have c1 := HCELL.out 1 _ rfl w1 b1
     have c2 := HCELL.out 2 _ rfl w1 b1
     have B1 := Lib.hid b1; clear b1 ht
     go_wp2_with fail
     refine (nodes_any a d l _).mono ?_
     rintro e w2 ⟨rfl, b2⟩
     have B2 := Lib.hid (bBo B1.out b2); clear b2 c0 c1 c2
     have c0 := HCELL.out 0 _ rfl w2 B2.out
     have c1 := HCELL.out 1 _ rfl w2 B2.out
     have c2 := HCELL.out 2 _ rfl w2 B2.out
     go_wp2_with fail
     refine (nodes_any a d l _).mono ?_
     rintro e w3 ⟨rfl, b3⟩
     have B3 := Lib.hid (bBo HB.out (bBo B2.out b3)); clear b3
     go_wp2
     go_ret
     exact ⟨ret_int HE.out.symm, B3.out⟩
   · have HE : Hid (slotI a d l p = -1) := by show _ = _; unfold slotI; rw [if_neg (by omega)]
     have t2 : decide (p < nodesI a d l) = true := by simp; omega
     go_enter Tryz.func141, Tryz.ntmps141
     go_wp2_with fail
     rw [← HWL.out]
     refine (geoThere_any a d l p _).mono ?_
     rintro e w1 ⟨rfl, b1⟩
     rw [ht]
     have c0 := HCELL.out 0 _ rfl w1 b1
     have c1 := HCELL.out 1 _ rfl w1 b1
     have c2 := HCELL.out 2 _ rfl w1 b1
     have B1 := Lib.hid b1; clear b1 ht
     go_wp2_with fail
     refine (nodes_any a d l _).mono ?_
     rintro e w2 ⟨rfl, b2⟩
     have B2 := Lib.hid (bBo HB.out (bBo B1.out b2)); clear b2
     go_wp2
     go_ret
     exact ⟨ret_int HE.out.symm, B2.out⟩
 · have HE : Hid (slotI a d l p = -1) := by show _ = _; unfold slotI; rw [if_neg (by omega)]
   have ht := thereB_no h0
   clear h0
   go_enter Tryz.func141, Tryz.ntmps141
   go_wp2_with fail
   rw [← HWL.out]
   refine (geoThere_any a d l p _).mono ?_
   rintro e w1 ⟨rfl, b1⟩
   rw [ht]
   have B1 := Lib.hid (bBo HB.out b1); clear b1 ht
   go_wp2
   go_ret
   exact ⟨ret_int HE.out.symm, B1.out⟩
end
section
open Go.RowKit
theorem gSuper_any (life : Nat) (w : World) (h : life < 18446744073709551616) : Calls Tryz.prog 193 #[.int .u64 (life : Int)] w fun e w' => e = .returned (.int .i64 ((2 + life % 2 : Nat) : Int)) ∧ w = w' := by
 have e : ((2 + life % 2 : Nat) : Int) = 2 + ((life % 2 : Nat) : Int) := by omega
 rw [e]
 have hm : Int.tmod (life : Int) 2 = ((life % 2 : Nat) : Int) := (Int.ofNat_tmod life 2).symm
 have hlt : life % 2 < 2 := Nat.mod_lt _ (by decide)
 generalize life % 2 = r at *
 have w1 : IntKind.u64.wrap (r : Int) = (r : Int) := IntWalk.u64_in _ (by omega)
 have w2 : IntKind.i64.wrap (r : Int) = (r : Int) := IntWalk.i64_in _ (by omega)
 have w3 : IntKind.i64.wrap (2 + (r : Int)) = 2 + (r : Int) := IntWalk.i64_in _ (by omega)
 go_enter Tryz.func193, Tryz.ntmps193
 go_wp2_with fail
 go_ret
 exact ⟨rfl, rfl⟩
theorem gRoot_any (life : Nat) (w : World) (h : life < 18446744073709551616) : Calls Tryz.prog 81 #[.int .u64 (life : Int)] w fun e w' => e = .returned (.int .i64 ((life % 2 : Nat) : Int)) ∧ w = w' := by
 have e : ((life % 2 : Nat) : Int) = ((life % 2 : Nat) : Int) := by omega
 rw [e]
 have hm : Int.tmod (life : Int) 2 = ((life % 2 : Nat) : Int) := (Int.ofNat_tmod life 2).symm
 have hlt : life % 2 < 2 := Nat.mod_lt _ (by decide)
 generalize life % 2 = r at *
 have w1 : IntKind.u64.wrap (r : Int) = (r : Int) := IntWalk.u64_in _ (by omega)
 have w2 : IntKind.i64.wrap (r : Int) = (r : Int) := IntWalk.i64_in _ (by omega)
 have w3 : IntKind.i64.wrap (2 + (r : Int)) = 2 + (r : Int) := IntWalk.i64_in _ (by omega)
 go_enter Tryz.func81, Tryz.ntmps81
 go_wp2_with fail
 go_ret
 exact ⟨rfl, rfl⟩
structure Geo (a d l : Int) : Prop where
 r : rightB a d l = true
theorem pgE (a d l : Int) : 0 ≤ pagesI a d l ∧ pagesI a d l ≤ 264 := by
 have h1 := nodes_le a d l; have h2 := leaves_le a d l
 unfold pagesI; omega
theorem Geo.l {a d l : Int} (h : Geo a d l) : 3 ≤ l ∧ l ≤ 64 := by
 have := h.r
 unfold rightB okAD at this
 simp only [Bool.and_eq_true, decide_eq_true_eq] at this
 omega
theorem gLog_any (a d l : Int) (i : Nat) (w : World) (h : Geo a d l) (hi : i ≤ 1099511627776) : Calls Tryz.prog 159 #[.agg #[.int .i64 a, .int .i64 d, .int .i64 l], .int .i64 (i : Int)] w fun e w' => e = .returned (.int .i64 ((4 + i % l.toNat : Nat) : Int)) ∧ Gr w w' := by
 obtain ⟨h3, h4⟩ := h.l
 obtain ⟨n, rfl⟩ : ∃ n : Nat, l = (n : Int) := ⟨l.toNat, by omega⟩
 rw [Int.toNat_natCast]
 have HR := Lib.hid (gRa a d (n : Int) (w.alloc (.cells #[.int .i64 a, .int .i64 d, .int .i64 (n : Int)] 23)))
 rw [h.r] at HR
 have HC : Hid (Blk (w.alloc (.cells #[.int .i64 a, .int .i64 d, .int .i64 (n : Int)] 23)) w.heap.size 23 [.int .i64 a, .int .i64 d, .int .i64 (n : Int)]) := Blk.new w _ _
 have G0 : Hid (Gr w (w.alloc (.cells #[.int .i64 a, .int .i64 d, .int .i64 (n : Int)] 23))) := Gr.alloc _ _
 have hm : Int.tmod (i : Int) (n : Int) = ((i % n : Nat) : Int) := (Int.ofNat_tmod i n).symm
 have hlt : i % n < n := Nat.mod_lt _ (by omega)
 have e : ((4 + i % n : Nat) : Int) = 4 + ((i % n : Nat) : Int) := by omega
 rw [e]
 generalize i % n = r at *
 have w2 : IntKind.i64.wrap (r : Int) = (r : Int) := IntWalk.i64_in _ (by omega)
 have w3 : IntKind.i64.wrap (4 + (r : Int)) = 4 + (r : Int) := IntWalk.i64_in _ (by omega)
 have t0 : decide ((i : Int) < 0) = false := decide_eq_false (by omega)
 have nz : ((n : Int) == 0) = false := by rw [beq_eq_false_iff_ne]; omega
 have nz2 : ¬ ((n : Int) = 0) := by omega
 clear h
 go_enter Tryz.func159, Tryz.ntmps159
 go_wp2_with fail
 refine HR.out.mono ?_
 rintro e w1 ⟨rfl, g1⟩
 have k2 := (HC.out.mono g1).cell 2
 have G1 : Hid (Gr w w1) := G0.out.trans g1
 clear g1
 go_wp2_with fail
 go_ret
 exact ⟨rfl, G1.out⟩
theorem gArea_any (a d l : Int) (life page : Nat) (w : World) (h : Geo a d l) (hl : life < 18446744073709551616) (hp : (page : Int) < pagesI a d l) : Calls Tryz.prog 198 #[.agg #[.int .i64 a, .int .i64 d, .int .i64 l], .int .u64 (life : Int), .int .i64 (page : Int)] w fun e w' => e = .returned (.int .i64 (4 + l + ((life % 2 : Nat) : Int) * pagesI a d l + (page : Int))) ∧ Gr w w' := by
 obtain ⟨h3, h4⟩ := h.l
 have hpl := pgE a d l
 have HP := Lib.hid (pages_any a d l (w.alloc (.cells #[.int .i64 a, .int .i64 d, .int .i64 l] 23)))
 generalize pagesI a d l = p at *
 have HC : Hid (Blk (w.alloc (.cells #[.int .i64 a, .int .i64 d, .int .i64 l] 23)) w.heap.size 23 [.int .i64 a, .int .i64 d, .int .i64 l]) := Blk.new w _ _
 have G0 : Hid (Gr w (w.alloc (.cells #[.int .i64 a, .int .i64 d, .int .i64 l] 23))) := Gr.alloc _ _
 have hm : Int.tmod (life : Int) 2 = ((life % 2 : Nat) : Int) := (Int.ofNat_tmod life 2).symm
 have hlt : life % 2 < 2 := Nat.mod_lt _ (by decide)
 generalize life % 2 = r at *
 have hr : (r : Int) = 0 ∨ (r : Int) = 1 := by omega
 have hrp : 0 ≤ (r : Int) * p ∧ (r : Int) * p ≤ 264 := by rcases hr with e | e <;> rw [e] <;> omega
 have w1 : IntKind.u64.wrap (r : Int) = (r : Int) := IntWalk.u64_in _ (by omega)
 have w2 : IntKind.i64.wrap (r : Int) = (r : Int) := IntWalk.i64_in _ (by omega)
 have w3 : IntKind.i64.wrap (4 + l) = 4 + l := IntWalk.i64_in _ (by omega)
 have w4 : IntKind.i64.wrap ((r : Int) * p) = (r : Int) * p := IntWalk.i64_in _ (by omega)
 have w5 : IntKind.i64.wrap (4 + l + (r : Int) * p) = 4 + l + (r : Int) * p := IntWalk.i64_in _ (by omega)
 have w6 : IntKind.i64.wrap (4 + l + (r : Int) * p + (page : Int)) = 4 + l + (r : Int) * p + (page : Int) := IntWalk.i64_in _ (by omega)
 have t0 : decide ((page : Int) < 0) = false := decide_eq_false (by omega)
 have t1 : decide (p ≤ (page : Int)) = false := decide_eq_false (by omega)
 clear h hr
 go_enter Tryz.func198, Tryz.ntmps198
 go_wp2_with fail
 refine HP.out.mono ?_
 rintro e w1 ⟨rfl, g1⟩
 have k2 := (HC.out.mono g1).cell 2
 have G1 : Hid (Gr w w1) := G0.out.trans g1
 clear g1
 go_wp2_with fail
 go_ret
 exact ⟨rfl, G1.out⟩
def partC (l q : Int) : Array Value := #[.string ⟨#[114, 111, 111, 116]⟩, .int .i64 2, .string ⟨#[115, 117, 112, 101, 114]⟩, .int .i64 2, .string ⟨#[108, 111, 103]⟩, .int .i64 l, .string ⟨#[97, 114, 101, 97]⟩, .int .i64 q]
theorem partOne (l q : Int) : (partC l q).all (·.oneCell') = true := by
 rw [Array.all_eq_true']
 intro v hv
 have : v ∈ (partC l q).toList := Array.mem_toList_iff.2 hv
 simp only [partC, List.mem_cons, List.not_mem_nil, or_false] at this
 rcases this with h | h | h | h | h | h | h | h <;> subst h <;> rfl
theorem partSize : (Tryz.prog.info? 161).map (·.size) = some 8 := by kernel_rfl
set_option maxRecDepth 100000 in
set_option maxHeartbeats 1000000 in
theorem gParts_any (a d l : Int) (w : World) (h : Geo a d l) : Calls Tryz.prog 126 #[.agg #[.int .i64 a, .int .i64 d, .int .i64 l]] w fun e w' => e = .returned (.agg (partC l (2 * pagesI a d l))) ∧ Gr w w' := by
 have hpl := pgE a d l
 have HP := Lib.hid (fun wr => pages_any a d l wr)
 generalize pagesI a d l = p at *
 have w1 : IntKind.i64.wrap (2 * p) = 2 * p := IntWalk.i64_in _ (by omega)
 clear h
 go_enter Tryz.func126, Tryz.ntmps126
 go_upto_region 1 with fail
 have bG : Blk ((w.alloc (.cells #[.int .i64 a, .int .i64 d, .int .i64 l] 23)).alloc (.cells #[.string ⟨#[]⟩, .int .i64 0, .string ⟨#[]⟩, .int .i64 0, .string ⟨#[]⟩, .int .i64 0, .string ⟨#[]⟩, .int .i64 0] 161)) w.heap.size 23 [.int .i64 a, .int .i64 d, .int .i64 l] := (Blk.new w _ _).alloc _
 have bP : Blk ((w.alloc (.cells #[.int .i64 a, .int .i64 d, .int .i64 l] 23)).alloc (.cells #[.string ⟨#[]⟩, .int .i64 0, .string ⟨#[]⟩, .int .i64 0, .string ⟨#[]⟩, .int .i64 0, .string ⟨#[]⟩, .int .i64 0] 161)) (w.heap.size + 1) 161 [.string ⟨#[]⟩, .int .i64 0, .string ⟨#[]⟩, .int .i64 0, .string ⟨#[]⟩, .int .i64 0, .string ⟨#[]⟩, .int .i64 0] := heap_alloc2_new w _ _
 have gg : Gr w ((w.alloc (.cells #[.int .i64 a, .int .i64 d, .int .i64 l] 23)).alloc (.cells #[.string ⟨#[]⟩, .int .i64 0, .string ⟨#[]⟩, .int .i64 0, .string ⟨#[]⟩, .int .i64 0, .string ⟨#[]⟩, .int .i64 0] 161)) := (Gr.alloc _ _).trans (Gr.alloc _ _)
 obtain ⟨W, hW⟩ : ∃ W, W = (w.alloc (.cells #[.int .i64 a, .int .i64 d, .int .i64 l] 23)).alloc (.cells #[.string ⟨#[]⟩, .int .i64 0, .string ⟨#[]⟩, .int .i64 0, .string ⟨#[]⟩, .int .i64 0, .string ⟨#[]⟩, .int .i64 0] 161) := ⟨_, rfl⟩
 rw [← hW] at bG bP gg
 have HW := Lib.hid hW
 have BG := Lib.hid bG; have BP := Lib.hid bP; have GG := Lib.hid gg
 clear bG bP gg hW
 rw [← HW.out]
 refine wrG (by kernel_rfl) [0, 0, 0, 4, 12, 0, 32, 96, 224, 511, 1023] [.p 0, .p 1, .p 2, .q 3, .p 4, .q 5, .c 6, .p 7, .p 8, .p 9, .s 10] (by kernel_rfl) (trivial) ?_
 iterate 3
  refine wPe rfl rfl ?_
  apply Exists.intro
  refine ⟨fun wq => ?_, ?_⟩
  · unfold pLa
    go_simp
    first | exact rfl | exact ⟨rfl, rfl⟩
  go_simp
 refine wQe rfl rfl ?_
 apply Exists.intro
 refine ⟨fun wq hq => ?_, ?_⟩
 · have k2 := (BG.out.mono ((Gr.drew _).trans hq)).cell 2
   unfold pLa
   go_simp
   first | exact rfl | exact ⟨rfl, rfl⟩
 go_simp
 refine wPe rfl rfl ?_
 apply Exists.intro
 refine ⟨fun wq => ?_, ?_⟩
 · unfold pLa
   go_simp
   first | exact rfl | exact ⟨rfl, rfl⟩
 go_simp
 refine wQe rfl rfl ?_
 apply Exists.intro
 refine ⟨fun wq hq => ?_, ?_⟩
 · have k0 := (BG.out.mono ((Gr.drew _).trans hq)).cell 0; have k1 := (BG.out.mono ((Gr.drew _).trans hq)).cell 1; have k2 := (BG.out.mono ((Gr.drew _).trans hq)).cell 2
   unfold pLa
   go_simp
   first | exact rfl | exact ⟨rfl, rfl⟩
 go_simp
 refine wpG_c rfl rfl ?_
 intro w4 g4 K hK
 go_simp
 go_at_call 134
 refine (HP.out w4).mono ?_
 rintro e wn ⟨rfl, g5⟩
 refine hK _ _ g5 ?_; have G5 := Lib.hid (((Gr.drew W).trans g4).trans g5); clear g4 g5 hK
 go_simp
 iterate 3
  refine wPe rfl rfl ?_
  apply Exists.intro
  refine ⟨fun wq => ?_, ?_⟩
  · unfold pLa
    go_simp
    first | exact rfl | exact ⟨rfl, rfl⟩
  go_simp
 refine wpG_s rfl rfl ?_
 intro w6 g6 K hK
 have B6 := Lib.hid (BP.out.mono (G5.out.trans g6))
 have G6 := Lib.hid (GG.out.trans (G5.out.trans g6))
 refine wp_store_row 161 (.tmp 2) (.tmp 12) rfl (w.heap.size + 1) (partC l (2 * p)) rfl rfl 161 _ B6.out partSize rfl (partOne _ _) ?_
 refine hK _ _ ?_
 clear hK g6
 have HN := Lib.hid (setRow_heap w6 (w.heap.size + 1) _ (partC l (2 * p)) _ _ B6.out)
 have GN : Hid (Gr w (w6.setRow (w.heap.size + 1) (partC l (2 * p)))) := bRb G6.out (show w.heap.size ≤ w.heap.size + 1 by omega) (partC l (2 * p))
 obtain ⟨w7, hw7⟩ : ∃ w7, w7 = w6.setRow (w.heap.size + 1) (partC l (2 * p)) := ⟨_, rfl⟩
 rw [← hw7] at HN GN ⊢
 clear hw7
 refine wNi ?_
 intro w8 g8
 have B8 : Blk w8 (w.heap.size + 1) 161 (partC l (2 * p)).toList := (show Blk w7 _ _ (partC l (2 * p)).toList from HN.out).mono g8
 have G8 : Gr w w8 := GN.out.trans g8
 go_wp2_with fail
 exact bodyPost_ret (results_cell_row Tryz.results126 _ _ (w.heap.size + 1) 161 _ (0, 0) _ rfl B8 Tryz.underlying161 rfl partSize) rfl ⟨rfl, G8⟩
theorem run_part0 (l q : Int) (W : World) : (Instr.index 161 (.agg (partC l q)) (.int .i64 0)).run Tryz.prog W = .ok (.agg #[.string ⟨#[114, 111, 111, 116]⟩, .int .i64 2]) W := by kernel_rfl
theorem run_part1 (l q : Int) (W : World) : (Instr.index 161 (.agg (partC l q)) (.int .i64 1)).run Tryz.prog W = .ok (.agg #[.string ⟨#[115, 117, 112, 101, 114]⟩, .int .i64 2]) W := by kernel_rfl
theorem run_part2 (l q : Int) (W : World) : (Instr.index 161 (.agg (partC l q)) (.int .i64 2)).run Tryz.prog W = .ok (.agg #[.string ⟨#[108, 111, 103]⟩, .int .i64 l]) W := by kernel_rfl
theorem run_part3 (l q : Int) (W : World) : (Instr.index 161 (.agg (partC l q)) (.int .i64 3)).run Tryz.prog W = .ok (.agg #[.string ⟨#[97, 114, 101, 97]⟩, .int .i64 q]) W := by kernel_rfl
def sizeI (a d l : Int) : Int := 4 + l + 2 * pagesI a d l
set_option maxRecDepth 100000 in
set_option maxHeartbeats 1000000 in
theorem gSize_any (a d l : Int) (w : World) (h : Geo a d l) : Calls Tryz.prog 58 #[.agg #[.int .i64 a, .int .i64 d, .int .i64 l]] w fun e w' => e = .returned (.int .i64 (sizeI a d l)) ∧ Gr w w' := by
 have hpl := pgE a d l
 obtain ⟨h3, h4⟩ := h.l
 have HP := Lib.hid (fun wr => gParts_any a d l wr h)
 have HR := Lib.hid (gRa a d l (w.alloc (.cells #[.int .i64 a, .int .i64 d, .int .i64 l] 23)))
 rw [h.r] at HR
 unfold sizeI
 generalize pagesI a d l = p at *
 have HC : Hid (Blk (w.alloc (.cells #[.int .i64 a, .int .i64 d, .int .i64 l] 23)) w.heap.size 23 [.int .i64 a, .int .i64 d, .int .i64 l]) := Blk.new w _ _
 have G0 : Hid (Gr w (w.alloc (.cells #[.int .i64 a, .int .i64 d, .int .i64 l] 23))) := Gr.alloc _ _
 have hx0 := fun W => run_part0 l (2 * p) W
 have hx1 := fun W => run_part1 l (2 * p) W
 have hx2 := fun W => run_part2 l (2 * p) W
 have hx3 := fun W => run_part3 l (2 * p) W
 obtain ⟨X, hX⟩ : ∃ X, X = partC l (2 * p) := ⟨_, rfl⟩
 rw [← hX] at HP hx0 hx1 hx2 hx3
 have w2 : IntKind.i64.wrap (4 + l) = 4 + l := IntWalk.i64_in _ (by omega)
 have w3 : IntKind.i64.wrap (4 + l + 2 * p) = 4 + l + 2 * p := IntWalk.i64_in _ (by omega)
 clear h hX
 go_enter Tryz.func58, Tryz.ntmps58
 go_wp2_with fail
 refine HR.out.mono ?_
 rintro e w1 ⟨rfl, g1⟩
 have k0 := (HC.out.mono g1).cell 0
 have k1 := (HC.out.mono g1).cell 1
 have k2 := (HC.out.mono g1).cell 2
 have G1 : Hid (Gr w w1) := G0.out.trans g1
 clear g1
 go_wp2_with fail
 refine (HP.out _).mono ?_
 rintro e w2 ⟨rfl, g2⟩
 have G2 : Hid (Gr w w2) := G1.out.trans g2
 clear g2 k0 k1 k2
 go_wp2_with fail
 refine wp_loop_rounds 5 ?_
 rw [rounds_succ]
 go_wp2_with fail
 rw [rounds_succ]
 go_wp2_with fail
 rw [rounds_succ]
 go_wp2_with fail
 rw [rounds_succ]
 go_wp2_with fail
 rw [rounds_succ]
 go_wp2_with fail
 go_ret
 exact ⟨rfl, G2.out.trans ((((Gr.alloc _ _).trans (Gr.alloc _ _)).trans (Gr.alloc _ _)).trans (Gr.alloc _ _))⟩
set_option maxRecDepth 100000 in
set_option maxHeartbeats 1000000 in
theorem gWhere_super (a d l : Int) (w : World) (h : Geo a d l) (p : Nat) (hp : p < 2) : Calls Tryz.prog 194 #[.agg #[.int .i64 a, .int .i64 d, .int .i64 l], .int .i64 ((2 + p : Nat) : Int)] w fun e w' => e = .returned (.tuple #[.string ⟨#[115, 117, 112, 101, 114]⟩, .int .i64 (p : Int)]) ∧ Gr w w' := by
 have hpl := pgE a d l
 obtain ⟨h3, h4⟩ := h.l
 have HP := Lib.hid (fun wr => gParts_any a d l wr h)
 have HS := Lib.hid (gSize_any a d l (w.alloc (.cells #[.int .i64 a, .int .i64 d, .int .i64 l] 23)) h)
 unfold sizeI at HS
 generalize pagesI a d l = q at *
 have HC : Hid (Blk (w.alloc (.cells #[.int .i64 a, .int .i64 d, .int .i64 l] 23)) w.heap.size 23 [.int .i64 a, .int .i64 d, .int .i64 l]) := Blk.new w _ _
 have G0 : Hid (Gr w (w.alloc (.cells #[.int .i64 a, .int .i64 d, .int .i64 l] 23))) := Gr.alloc _ _
 have hx0 := fun W => run_part0 l (2 * q) W
 have hx1 := fun W => run_part1 l (2 * q) W
 obtain ⟨X, hX⟩ : ∃ X, X = partC l (2 * q) := ⟨_, rfl⟩
 rw [← hX] at HP hx0 hx1
 obtain ⟨r, hr⟩ : ∃ r : Int, r = ((2 + p : Nat) : Int) := ⟨_, rfl⟩
 have hr2 : r - 2 = (p : Int) := by omega
 have t0 : decide (r < 0) = false := decide_eq_false (by omega)
 have t1 : decide (4 + l + 2 * q ≤ r) = false := decide_eq_false (by omega)
 have t2 : decide ((2 : Int) ≤ r) = true := decide_eq_true (by omega)
 have t3 : decide ((2 : Int) ≤ (p : Int)) = false := decide_eq_false (by omega)
 have w1 : IntKind.i64.wrap (r - 2) = (p : Int) := by rw [hr2]; exact IntWalk.i64_in _ (by omega)
 rw [← hr]
 clear h hX hr hr2
 go_enter Tryz.func194, Tryz.ntmps194
 go_wp2_with fail
 go_step3
 go_wp2_with fail
 refine HS.out.mono ?_
 rintro e w1 ⟨rfl, g1⟩
 have k0 := (HC.out.mono g1).cell 0
 have k1 := (HC.out.mono g1).cell 1
 have k2 := (HC.out.mono g1).cell 2
 have G1 : Hid (Gr w w1) := G0.out.trans g1
 clear g1
 go_wp2_with fail
 go_step3
 go_wp2_with fail
 refine (HP.out _).mono ?_
 rintro e w2 ⟨rfl, g2⟩
 have G2 : Hid (Gr w w2) := G1.out.trans g2
 clear g2 k0 k1 k2
 go_wp2_with fail
 refine wp_loop_rounds 2 ?_
 rw [rounds_succ]
 go_wp2_with fail
 rw [rounds_succ]
 go_wp2_with fail
 try rw [Exit.noGoto_ret]
 go_ret2
 exact ⟨rfl, G2.out.trans ((Gr.alloc _ _).trans (Gr.alloc _ _))⟩
end
end Go.Proofs.YtdkmlmbehlooiaaGreatDoor
