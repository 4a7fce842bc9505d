import Derived.Test.YtbmijjodpdbbmaaObGeomW
import Derived.Test.YtbmijjodpdbbmaaObShapeL
import Derived.Test.YtbmijjodpdbbmaaObTrailW
namespace Go.Proofs.Ytbmijjodpdbbmaa
open Go.RowKit
set_option linter.unusedVariables false

theorem pagesI_eq (a d l : Int) : pagesI a d l = nodesI a d l + leavesI a d l := rfl

theorem there_any (a d l p : Int) (w : World) :
    Calls Try.prog 51 #[.agg #[.int .i64 a, .int .i64 d, .int .i64 l], .int .i64 p] w (RetB w (thereB a d l p)) := by
  have hb : Below w.heap.size w (w.alloc (.cells #[.int .i64 a, .int .i64 d, .int .i64 l] 40)) := (Below.refl _ _).alloc (Nat.le_refl _) _
  have hc := (Blk.new w 40 #[.int .i64 a, .int .i64 d, .int .i64 l])
  obtain ⟨wl, hwl⟩ : ∃ wl, wl = w.alloc (.cells #[.int .i64 a, .int .i64 d, .int .i64 l] 40) := ⟨_, rfl⟩
  rw [← hwl] at hb hc
  have HB := Lib.hid hb; have HWL := Lib.hid hwl; clear hb hwl
  have HCELL : Hid (∀ (i : Nat) (v : Value), [Value.int .i64 a, .int .i64 d, .int .i64 l][i]? = some v → ∀ wq, Below wl.heap.size wl wq → wq.cell? ⟨w.heap.size, i, none⟩ = some v) := by
    intro i v hv wq hq
    rw [hq.cell (p := ⟨w.heap.size, i, none⟩) hc.lt, hc.cell]
    exact hv
  clear hc
  by_cases h0 : 0 ≤ p
  · have t1 : decide (0 ≤ p) = true := by simpa using h0
    have HE : Hid (decide (p < pagesI a d l) = thereB a d l p) := by show _ = _; unfold thereB; rw [pagesI_eq]; simp [h0]
    go_enter Try.func51, Try.ntmps51
    go_wp2_with fail
    rw [← HWL.out]
    refine (pages_any a d l _).mono ?_
    rintro e w1 ⟨rfl, b1⟩
    have B1 := Lib.hid (below_both HB.out b1); clear b1
    go_wp2
    go_ret
    exact ⟨ret_bool HE.out, B1.out⟩
  · have t1 : decide (0 ≤ p) = false := by simpa using h0
    have HE : Hid (thereB a d l p = false) := by show _ = _; unfold thereB; simp [h0]
    go_enter Try.func51, Try.ntmps51
    go_wp2_with fail
    rw [← HWL.out]
    go_ret
    exact ⟨ret_bool HE.out.symm, HB.out⟩

theorem mul_bounds {a n A N : Int} (h0 : 0 ≤ a) (h1 : a ≤ A) (h2 : 0 ≤ n) (h3 : n ≤ N) : 0 ≤ a * n ∧ a * n ≤ A * N :=
  ⟨Int.mul_nonneg h0 h2, Int.le_trans (Int.mul_le_mul_of_nonneg_right h1 h2) (Int.mul_le_mul_of_nonneg_left h3 (by omega))⟩
theorem right_of_nodes {a d l n : Int} (h0 : 0 ≤ n) (h : n < nodesI a d l) : 2 ≤ a ∧ a ≤ 4 := by
  cases hr : rightB a d l
  · rw [nodesI_no hr] at h; omega
  · obtain ⟨x, y, rfl, rfl, hx1, hx2, hy1, hy2⟩ := rightB_ok hr; omega
theorem right_of_pages {a d l n : Int} (h0 : 0 ≤ n) (h : n < nodesI a d l + leavesI a d l) : rightB a d l = true := by
  cases hr : rightB a d l
  · rw [nodesI_no hr, leavesI_no hr] at h; omega
  · rfl

set_option maxHeartbeats 1000000 in
theorem child_any (a d l n k : Int) (w : World) :
    Calls Try.prog 53 #[.agg #[.int .i64 a, .int .i64 d, .int .i64 l], .int .i64 n, .int .i64 k] w (RetI w (childI a d l n k)) := by
  have hb : Below w.heap.size w (w.alloc (.cells #[.int .i64 a, .int .i64 d, .int .i64 l] 40)) := (Below.refl _ _).alloc (Nat.le_refl _) _
  have hc := (Blk.new w 40 #[.int .i64 a, .int .i64 d, .int .i64 l])
  obtain ⟨wl, hwl⟩ : ∃ wl, wl = w.alloc (.cells #[.int .i64 a, .int .i64 d, .int .i64 l] 40) := ⟨_, rfl⟩
  rw [← hwl] at hb hc
  have HB := Lib.hid hb; have HWL := Lib.hid hwl; clear hb hwl
  have HCELL : Hid (∀ (i : Nat) (v : Value), [Value.int .i64 a, .int .i64 d, .int .i64 l][i]? = some v → ∀ wq, Below wl.heap.size wl wq → wq.cell? ⟨w.heap.size, i, none⟩ = some v) := by
    intro i v hv wq hq
    rw [hq.cell (p := ⟨w.heap.size, i, none⟩) hc.lt, hc.cell]
    exact hv
  clear hc
  have hn := nodes_le a d l
  by_cases hy : 0 ≤ n ∧ n < nodesI a d l ∧ 0 ≤ k ∧ k < a
  · have HE : Hid (childI a d l n k = a * n + 1 + k) := by show _ = _; unfold childI; rw [if_pos hy]
    obtain ⟨h0, h1, h2, h3⟩ := hy
    obtain ⟨ha1, ha2⟩ := right_of_nodes h0 h1
    have hm := mul_bounds (show 0 ≤ a by omega) ha2 h0 (show n ≤ 200 by omega)
    have t1 : decide (n < 0) = false := by simp; omega
    have t2 : decide (nodesI a d l ≤ n) = false := by simp; omega
    have t3 : decide (k < 0) = false := by simp; omega
    have t4 : decide (a ≤ k) = false := by simp; omega
    go_enter Try.func53, Try.ntmps53
    go_wp2_with fail
    rw [← HWL.out]
    refine (nodes_any a d l _).mono ?_
    rintro e w1 ⟨rfl, b1⟩
    have c0 := HCELL.out 0 _ rfl w1 b1
    have c1 := HCELL.out 1 _ rfl w1 b1
    have c2 := HCELL.out 2 _ rfl w1 b1
    have B1 := Lib.hid (below_both HB.out b1); clear b1
    go_wp2
    go_ret
    exact ⟨ret_int HE.out.symm, B1.out⟩
  · have HE : Hid (childI a d l n k = -1) := by show _ = _; unfold childI; rw [if_neg hy]
    by_cases h0 : n < 0
    · have t1 : decide (n < 0) = true := by simpa using h0
      clear hy
      go_enter Try.func53, Try.ntmps53
      go_wp2_with fail
      rw [← HWL.out]
      go_ret
      exact ⟨ret_int HE.out.symm, HB.out⟩
    · have t1 : decide (n < 0) = false := by simpa using h0
      by_cases h1 : nodesI a d l ≤ n
      case' pos => have t2 : decide (nodesI a d l ≤ n) = true := by simpa using h1
      case' neg =>
        have t2 : decide (nodesI a d l ≤ n) = false := by simpa using h1
        by_cases h2 : k < 0
        case' pos => have t3 : decide (k < 0) = true := by simpa using h2
        case' neg =>
          have t3 : decide (k < 0) = false := by simpa using h2
          have t4 : decide (a ≤ k) = true := by simp; omega
      all_goals
        clear hy
        go_enter Try.func53, Try.ntmps53
        go_wp2_with fail
        rw [← HWL.out]
        refine (nodes_any a d l _).mono ?_
        rintro e w1 ⟨rfl, b1⟩
        have c0 := HCELL.out 0 _ rfl w1 b1
        have c1 := HCELL.out 1 _ rfl w1 b1
        have c2 := HCELL.out 2 _ rfl w1 b1
        have B1 := Lib.hid (below_both HB.out b1); clear b1
        go_wp2
        go_ret
        exact ⟨ret_int HE.out.symm, B1.out⟩

theorem thereB_yes {a d l p : Int} (h : 0 ≤ p ∧ p < nodesI a d l + leavesI a d l) : thereB a d l p = true := by unfold thereB; simpa using h
theorem thereB_no {a d l p : Int} (h : ¬ (0 ≤ p ∧ p < nodesI a d l + leavesI a d l)) : thereB a d l p = false := by unfold thereB; simp; omega

set_option maxHeartbeats 1000000 in
theorem parent_any (a d l p : Int) (w : World) :
    Calls Try.prog 45 #[.agg #[.int .i64 a, .int .i64 d, .int .i64 l], .int .i64 p] w (RetI w (parentI a d l p)) := by
  have hb : Below w.heap.size w (w.alloc (.cells #[.int .i64 a, .int .i64 d, .int .i64 l] 40)) := (Below.refl _ _).alloc (Nat.le_refl _) _
  have hc := (Blk.new w 40 #[.int .i64 a, .int .i64 d, .int .i64 l])
  obtain ⟨wl, hwl⟩ : ∃ wl, wl = w.alloc (.cells #[.int .i64 a, .int .i64 d, .int .i64 l] 40) := ⟨_, rfl⟩
  rw [← hwl] at hb hc
  have HB := Lib.hid hb; have HWL := Lib.hid hwl; clear hb hwl
  have HCELL : Hid (∀ (i : Nat) (v : Value), [Value.int .i64 a, .int .i64 d, .int .i64 l][i]? = some v → ∀ wq, Below wl.heap.size wl wq → wq.cell? ⟨w.heap.size, i, none⟩ = some v) := by
    intro i v hv wq hq
    rw [hq.cell (p := ⟨w.heap.size, i, none⟩) hc.lt, hc.cell]
    exact hv
  clear hc
  have n1 := nodes_le a d l
  have n2 := leaves_le a d l
  by_cases hy : 1 ≤ p ∧ p < nodesI a d l + leavesI a d l
  · have HE : Hid (parentI a d l p = (p - 1) / a) := by show _ = _; unfold parentI; rw [if_pos hy]
    obtain ⟨h0, h1⟩ := hy
    have ht := thereB_yes (a := a) (d := d) (l := l) (p := p) ⟨by omega, h1⟩
    obtain ⟨x, y, rfl, rfl, hx1, hx2, hy1, hy2⟩ := rightB_ok (right_of_pages (show 0 ≤ p by omega) h1)
    have t1 : (p == 0) = false := by simp; omega
    have t2 : ((x : Int) == 0) = false := by simp; omega
    go_enter Try.func45, Try.ntmps45
    go_wp2_with fail
    rw [← HWL.out]
    refine (there_any _ _ l p _).mono ?_
    rintro e w1 ⟨rfl, b1⟩
    rw [ht]
    have c0 := HCELL.out 0 _ rfl w1 b1
    have c1 := HCELL.out 1 _ rfl w1 b1
    have c2 := HCELL.out 2 _ rfl w1 b1
    have B1 := Lib.hid (below_both HB.out b1); clear b1 ht
    go_wp2
    go_ret
    exact ⟨ret_int HE.out.symm, B1.out⟩
  · have HE : Hid (parentI a d l p = -1) := by show _ = _; unfold parentI; rw [if_neg hy]
    by_cases h0 : 0 ≤ p ∧ p < nodesI a d l + leavesI a d l
    case' pos =>
      have ht := thereB_yes h0
      have t1 : (p == 0) = true := by simp; omega
    case' neg => have ht := thereB_no h0
    all_goals
      clear hy h0
      go_enter Try.func45, Try.ntmps45
      go_wp2_with fail
      rw [← HWL.out]
      refine (there_any _ _ l p _).mono ?_
      rintro e w1 ⟨rfl, b1⟩
      rw [ht]
      have B1 := Lib.hid (below_both HB.out b1); clear b1 ht
      go_wp2
      go_ret
      exact ⟨ret_int HE.out.symm, B1.out⟩
theorem upI_yes {a d l p : Int} (h : thereB a d l p = true) : upI a d l p = (upL a.toNat p.toNat).map fun (n : Nat) => (n : Int) := by unfold upI; rw [if_pos h]
theorem upI_no {a d l p : Int} (h : thereB a d l p = false) : upI a d l p = [] := by unfold upI; rw [if_neg (by rw [h]; simp)]

set_option maxRecDepth 100000 in
set_option maxHeartbeats 1000000 in
theorem up_any (a d l p : Int) (w : World) :
    Calls Try.prog 44 #[.agg #[.int .i64 a, .int .i64 d, .int .i64 l], .int .i64 p] w (RetIs w (upI a d l p)) := by
  have hb : Below w.heap.size w (w.alloc (.cells #[.int .i64 a, .int .i64 d, .int .i64 l] 40)) := (Below.refl _ _).alloc (Nat.le_refl _) _
  have hc := (Blk.new w 40 #[.int .i64 a, .int .i64 d, .int .i64 l])
  obtain ⟨wl, hwl⟩ : ∃ wl, wl = w.alloc (.cells #[.int .i64 a, .int .i64 d, .int .i64 l] 40) := ⟨_, rfl⟩
  rw [← hwl] at hb hc
  have HB := Lib.hid hb; have HWL := Lib.hid hwl; clear hb hwl
  have HCELL : Hid (∀ (i : Nat) (v : Value), [Value.int .i64 a, .int .i64 d, .int .i64 l][i]? = some v → ∀ wq, Below wl.heap.size wl wq → wq.cell? ⟨w.heap.size, i, none⟩ = some v) := by
    intro i v hv wq hq
    rw [hq.cell (p := ⟨w.heap.size, i, none⟩) hc.lt, hc.cell]
    exact hv
  clear hc
  have n1 := nodes_le a d l
  have n2 := leaves_le a d l
  by_cases h0 : 0 ≤ p ∧ p < nodesI a d l + leavesI a d l
  · have ht := thereB_yes h0
    have HU := Lib.hid (upI_yes ht)
    obtain ⟨h0, h1⟩ := h0
    have hr := right_of_pages h0 h1
    obtain ⟨x, y, rfl, rfl, hx1, hx2, hy1, hy2⟩ := rightB_ok hr
    obtain ⟨P, rfl⟩ := Int.eq_ofNat_of_zero_le h0
    go_enter Try.func44, Try.ntmps44
    go_wp2_with fail
    go_step3
    go_wp2_with fail
    rw [← HWL.out]
    refine (there_any _ _ l _ _).mono ?_
    rintro e w1 ⟨rfl, b1⟩
    rw [ht]
    have B1 := Lib.hid b1; clear b1 ht hr
    go_wp2
    go_step3
    go_wp2
    go_loopw [1, 4] (fun pg v wr => ∃ (q : Nat) (acc : List Nat), pg = .int .i64 q ∧ q ≤ P ∧ acc ++ upL x q = upL x P ∧ Own wl wr 3 1 v acc.length ((acc.map fun (n : Nat) => (n : Int)).map i64c)) (fun pg _ _ => (intOf pg).toNat)
    case atStart => exact ⟨P, [], rfl, Nat.le_refl _, rfl, Own.nil' B1.out _ _⟩
    case round =>
      obtain ⟨q, acc, rfl, hq, hacc, hown⟩ := hrel
      have hal : acc.length ≤ 300 := by
        have h := congrArg List.length hacc
        have h2 := upL_le x P
        rw [List.length_append] at h
        omega
      have HA := Lib.hid hacc; clear hacc
      have HNEW : Hid (((acc ++ [q]).map fun (n : Nat) => (n : Int)).map i64c = (acc.map fun (n : Nat) => (n : Int)).map i64c ++ [.int .i64 (q : Int)]) := by show _ = _; simp [i64c]
      by_cases hz : q = 0
      · subst hz
        go_wp2_with (at_builtin; refine wpList_push rfl _ _ 31 rfl tNums rfl hown #[.int .i64 0] rfl rfl (one_int _ _) (by omega) ?_; intro v1 w2 own1)
        go_ret
        refine ⟨_, rfl, ?_⟩
        rw [HU.out, Int.toNat_natCast, Int.toNat_natCast, ← HA.out, upL_zero, HNEW.out]
        have := own1.base HB.out
        simpa using this
      · have t1 : ((q : Int) == 0) = false := by simp; omega
        have HP : Hid (parentI (x : Int) y l q = ((q - 1) / x : Nat)) := by
          show _ = _
          unfold parentI
          rw [if_pos ⟨by omega, by omega⟩]
          have : ((q : Int) - 1) = ((q - 1 : Nat) : Int) := by omega
          rw [this]; rfl
        have hdiv : (q - 1) / x ≤ q - 1 := Nat.div_le_self _ _
        have HS := Lib.hid (upL_pos x q (by omega))
        have HBX := Lib.hid hown.below
        go_wp2_with (first | (at_builtin; refine wpList_push rfl _ _ 31 rfl tNums rfl hown #[.int .i64 q] rfl rfl (one_int _ _) (by omega) ?_; intro v1 w2 own1; have c0 := HCELL.out 0 _ rfl w2 own1.below; have c1 := HCELL.out 1 _ rfl w2 own1.below; have c2 := HCELL.out 2 _ rfl w2 own1.below) | (go_at_call 45; refine (parent_any _ _ l _ _).mono ?_; rintro e w3 ⟨rfl, b3⟩; rw [HP.out]))
        go_roundw
        case rel =>
          refine ⟨(q - 1) / x, acc ++ [q], rfl, by omega, ?_, ?_⟩
          · rw [← HA.out, HS.out]; simp
          · rw [HNEW.out, List.length_append]
            exact own1.mono b3
        case measure => simp [intOf]; omega
  · have ht := thereB_no h0
    have HU := Lib.hid (upI_no ht)
    clear h0
    go_enter Try.func44, Try.ntmps44
    go_wp2_with fail
    go_step3
    go_wp2_with fail
    rw [← HWL.out]
    refine (there_any _ _ l _ _).mono ?_
    rintro e w1 ⟨rfl, b1⟩
    rw [ht]
    have B1 := Lib.hid (below_both HB.out b1); clear b1 ht
    go_wp2
    rw [Exit.noGoto_ret]
    go_ret
    exact ⟨_, rfl, by rw [HU.out]; exact Own.nil' B1.out _ _⟩

set_option maxHeartbeats 1000000 in
theorem leaf_any (a d l p : Int) (w : World) :
    Calls Try.prog 43 #[.agg #[.int .i64 a, .int .i64 d, .int .i64 l], .int .i64 p] w (RetI w (leafI a d l p)) := by
  have hb : Below w.heap.size w (w.alloc (.cells #[.int .i64 a, .int .i64 d, .int .i64 l] 40)) := (Below.refl _ _).alloc (Nat.le_refl _) _
  have hc := (Blk.new w 40 #[.int .i64 a, .int .i64 d, .int .i64 l])
  obtain ⟨wl, hwl⟩ : ∃ wl, wl = w.alloc (.cells #[.int .i64 a, .int .i64 d, .int .i64 l] 40) := ⟨_, rfl⟩
  rw [← hwl] at hb hc
  have HB := Lib.hid hb; have HWL := Lib.hid hwl; clear hb hwl
  have HCELL : Hid (∀ (i : Nat) (v : Value), [Value.int .i64 a, .int .i64 d, .int .i64 l][i]? = some v → ∀ wq, Below wl.heap.size wl wq → wq.cell? ⟨w.heap.size, i, none⟩ = some v) := by
    intro i v hv wq hq
    rw [hq.cell (p := ⟨w.heap.size, i, none⟩) hc.lt, hc.cell]
    exact hv
  clear hc
  have n1 := nodes_le a d l
  have n2 := leaves_le a d l
  by_cases hy : 0 ≤ p ∧ p < leavesI a d l
  · have HE : Hid (leafI a d l p = nodesI a d l + p) := by show _ = _; unfold leafI; rw [if_pos hy]
    have t1 : decide (p < 0) = false := by simp; omega
    have t2 : decide (leavesI a d l ≤ p) = false := by simp; omega
    go_enter Try.func43, Try.ntmps43
    go_wp2_with fail
    rw [← HWL.out]
    refine (leaves_any a d l _).mono ?_
    rintro e w1 ⟨rfl, b1⟩
    have c0 := HCELL.out 0 _ rfl w1 b1
    have c1 := HCELL.out 1 _ rfl w1 b1
    have c2 := HCELL.out 2 _ rfl w1 b1
    have B1 := Lib.hid (below_both HB.out b1); clear b1
    go_wp2_with fail
    refine (nodes_any a d l _).mono ?_
    rintro e w2 ⟨rfl, b2⟩
    have B2 := Lib.hid (below_both B1.out b2); clear b2
    go_wp2
    go_ret
    exact ⟨ret_int HE.out.symm, B2.out⟩
  · have HE : Hid (leafI a d l p = -1) := by show _ = _; unfold leafI; rw [if_neg hy]
    by_cases h0 : p < 0
    · have t1 : decide (p < 0) = true := by simpa using h0
      clear hy
      go_enter Try.func43, Try.ntmps43
      go_wp2_with fail
      rw [← HWL.out]
      go_ret
      exact ⟨ret_int HE.out.symm, HB.out⟩
    · have t1 : decide (p < 0) = false := by simpa using h0
      have t2 : decide (leavesI a d l ≤ p) = true := by simp; omega
      clear hy
      go_enter Try.func43, Try.ntmps43
      go_wp2_with fail
      rw [← HWL.out]
      refine (leaves_any a d l _).mono ?_
      rintro e w1 ⟨rfl, b1⟩
      have B1 := Lib.hid (below_both HB.out b1); clear b1
      go_wp2
      go_ret
      exact ⟨ret_int HE.out.symm, B1.out⟩

set_option maxHeartbeats 1000000 in
theorem slot_any (a d l p : Int) (w : World) :
    Calls Try.prog 54 #[.agg #[.int .i64 a, .int .i64 d, .int .i64 l], .int .i64 p] w (RetI w (slotI a d l p)) := by
  have hb : Below w.heap.size w (w.alloc (.cells #[.int .i64 a, .int .i64 d, .int .i64 l] 40)) := (Below.refl _ _).alloc (Nat.le_refl _) _
  have hc := (Blk.new w 40 #[.int .i64 a, .int .i64 d, .int .i64 l])
  obtain ⟨wl, hwl⟩ : ∃ wl, wl = w.alloc (.cells #[.int .i64 a, .int .i64 d, .int .i64 l] 40) := ⟨_, rfl⟩
  rw [← hwl] at hb hc
  have HB := Lib.hid hb; have HWL := Lib.hid hwl; clear hb hwl
  have HCELL : Hid (∀ (i : Nat) (v : Value), [Value.int .i64 a, .int .i64 d, .int .i64 l][i]? = some v → ∀ wq, Below wl.heap.size wl wq → wq.cell? ⟨w.heap.size, i, none⟩ = some v) := by
    intro i v hv wq hq
    rw [hq.cell (p := ⟨w.heap.size, i, none⟩) hc.lt, hc.cell]
    exact hv
  clear hc
  have n1 := nodes_le a d l
  have n2 := leaves_le a d l
  by_cases h0 : 0 ≤ p ∧ p < nodesI a d l + leavesI a d l
  · have ht := thereB_yes h0
    by_cases hy : nodesI a d l ≤ p
    · have HE : Hid (slotI a d l p = p - nodesI a d l) := by show _ = _; unfold slotI; rw [if_pos ⟨h0.1, hy, h0.2⟩]
      have t2 : decide (p < nodesI a d l) = false := by simp; omega
      go_enter Try.func54, Try.ntmps54
      go_wp2_with fail
      rw [← HWL.out]
      refine (there_any a d l p _).mono ?_
      rintro e w1 ⟨rfl, b1⟩
      rw [ht]
      have c0 := HCELL.out 0 _ rfl w1 b1
      have c1 := HCELL.out 1 _ rfl w1 b1
      have c2 := HCELL.out 2 _ rfl w1 b1
      have B1 := Lib.hid b1; clear b1 ht
      go_wp2_with fail
      refine (nodes_any a d l _).mono ?_
      rintro e w2 ⟨rfl, b2⟩
      have B2 := Lib.hid (below_both B1.out b2); clear b2 c0 c1 c2
      have c0 := HCELL.out 0 _ rfl w2 B2.out
      have c1 := HCELL.out 1 _ rfl w2 B2.out
      have c2 := HCELL.out 2 _ rfl w2 B2.out
      go_wp2_with fail
      refine (nodes_any a d l _).mono ?_
      rintro e w3 ⟨rfl, b3⟩
      have B3 := Lib.hid (below_both HB.out (below_both B2.out b3)); clear b3
      go_wp2
      go_ret
      exact ⟨ret_int HE.out.symm, B3.out⟩
    · have HE : Hid (slotI a d l p = -1) := by show _ = _; unfold slotI; rw [if_neg (by omega)]
      have t2 : decide (p < nodesI a d l) = true := by simp; omega
      go_enter Try.func54, Try.ntmps54
      go_wp2_with fail
      rw [← HWL.out]
      refine (there_any a d l p _).mono ?_
      rintro e w1 ⟨rfl, b1⟩
      rw [ht]
      have c0 := HCELL.out 0 _ rfl w1 b1
      have c1 := HCELL.out 1 _ rfl w1 b1
      have c2 := HCELL.out 2 _ rfl w1 b1
      have B1 := Lib.hid b1; clear b1 ht
      go_wp2_with fail
      refine (nodes_any a d l _).mono ?_
      rintro e w2 ⟨rfl, b2⟩
      have B2 := Lib.hid (below_both HB.out (below_both B1.out b2)); clear b2
      go_wp2
      go_ret
      exact ⟨ret_int HE.out.symm, B2.out⟩
  · have HE : Hid (slotI a d l p = -1) := by show _ = _; unfold slotI; rw [if_neg (by omega)]
    have ht := thereB_no h0
    clear h0
    go_enter Try.func54, Try.ntmps54
    go_wp2_with fail
    rw [← HWL.out]
    refine (there_any a d l p _).mono ?_
    rintro e w1 ⟨rfl, b1⟩
    rw [ht]
    have B1 := Lib.hid (below_both HB.out b1); clear b1 ht
    go_wp2
    go_ret
    exact ⟨ret_int HE.out.symm, B1.out⟩
end Go.Proofs.Ytbmijjodpdbbmaa
