/- Own texts, one behind the other. No condition. -/
import Derived.Test.YtdkmlmbehlooiaaGreatDoorObPkAQ
set_option linter.unusedVariables false
set_option linter.unusedSimpArgs false
namespace Go.Proofs.YtdkmlmbehlooiaaGreatDoor
section
open Go.RowKit
def RetI (w : World) (n : Int) (e : Ending) (w' : World) : Prop := e = .returned (.int .i64 n) ∧ Below w.heap.size w w'
def RetGB (w : World) (b : Bool) (e : Ending) (w' : World) : Prop := e = .returned (.bool b) ∧ Below w.heap.size w w'
theorem least_any (a d l : Int) (w : World) :
 Calls Tryz.prog 125 #[.agg #[.int .i64 a, .int .i64 d, .int .i64 l]] w (RetI w (leastI a d)) := by
 have hb : Below w.heap.size w (w.alloc (.cells #[.int .i64 a, .int .i64 d, .int .i64 l] 23)) := (Below.refl _ _).alloc (Nat.le_refl _) _
 have HB := Lib.hid hb; clear hb
 by_cases h : 2 ≤ a ∧ a ≤ 4 ∧ 1 ≤ d ∧ d ≤ 3
 · have HE : Hid (leastI a d = d + 2) := by show _ = _; unfold leastI okAD; simp [h]
   obtain ⟨h1, h2, h3, h4⟩ := h
   have t1 : decide (a < 2) = false := by simp; omega
   have t2 : decide (4 < a) = false := by simp; omega
   have t3 : decide (d < 1) = false := by simp; omega
   have t4 : decide (3 < d) = false := by simp; omega
   go_enter Tryz.func125, Tryz.ntmps125
   go_wp2
   go_ret
   exact ⟨ret_int HE.out.symm, HB.out⟩
 · have HE : Hid (leastI a d = 0) := by show _ = _; unfold leastI okAD; simp [h]
   by_cases h1 : a < 2
   case' pos => have t1 : decide (a < 2) = true := by simpa using h1
   case' neg =>
    have t1 : decide (a < 2) = false := by simpa using h1
    by_cases h2 : 4 < a
    case' pos => have t2 : decide (4 < a) = true := by simpa using h2
    case' neg =>
     have t2 : decide (4 < a) = false := by simpa using h2
     by_cases h3 : d < 1
     case' pos => have t3 : decide (d < 1) = true := by simpa using h3
     case' neg =>
      have t3 : decide (d < 1) = false := by simpa using h3
      have t4 : decide (3 < d) = true := by simp; omega
   all_goals
    clear h
    go_enter Tryz.func125, Tryz.ntmps125
    go_wp2
    go_ret
    exact ⟨ret_int HE.out.symm, HB.out⟩
theorem refLeast_any (a d l : Int) (w : World) :
 Calls Tryz.prog 17 #[.agg #[.int .i64 a, .int .i64 d, .int .i64 l]] w (RetI w (leastI a d)) := by
 have hb : Below w.heap.size w (w.alloc (.cells #[.int .i64 a, .int .i64 d, .int .i64 l] 23)) := (Below.refl _ _).alloc (Nat.le_refl _) _
 have HB := Lib.hid hb; clear hb
 by_cases h : 2 ≤ a ∧ a ≤ 4 ∧ 1 ≤ d ∧ d ≤ 3
 · have HE : Hid (leastI a d = d + 2) := by show _ = _; unfold leastI okAD; simp [h]
   obtain ⟨h1, h2, h3, h4⟩ := h
   have t1 : decide (a < 2) = false := by simp; omega
   have t2 : decide (4 < a) = false := by simp; omega
   have t3 : decide (d < 1) = false := by simp; omega
   have t4 : decide (3 < d) = false := by simp; omega
   go_enter Tryz.func17, Tryz.ntmps17
   go_wp2
   go_ret
   exact ⟨ret_int HE.out.symm, HB.out⟩
 · have HE : Hid (leastI a d = 0) := by show _ = _; unfold leastI okAD; simp [h]
   by_cases h1 : a < 2
   case' pos => have t1 : decide (a < 2) = true := by simpa using h1
   case' neg =>
    have t1 : decide (a < 2) = false := by simpa using h1
    by_cases h2 : 4 < a
    case' pos => have t2 : decide (4 < a) = true := by simpa using h2
    case' neg =>
     have t2 : decide (4 < a) = false := by simpa using h2
     by_cases h3 : d < 1
     case' pos => have t3 : decide (d < 1) = true := by simpa using h3
     case' neg =>
      have t3 : decide (d < 1) = false := by simpa using h3
      have t4 : decide (3 < d) = true := by simp; omega
   all_goals
    clear h
    go_enter Tryz.func17, Tryz.ntmps17
    go_wp2
    go_ret
    exact ⟨ret_int HE.out.symm, HB.out⟩
theorem leastI_pos (a d : Int) : decide (0 < leastI a d) = okAD a d := by
 unfold leastI okAD
 by_cases h : 2 ≤ a ∧ a ≤ 4 ∧ 1 ≤ d ∧ d ≤ 3
 · simp [h]; omega
 · simp [h]
theorem leastI_of {a d : Int} (h : okAD a d = true) : leastI a d = d + 2 := by unfold leastI; rw [if_pos h]
theorem gRa (a d l : Int) (w : World) :
 Calls Tryz.prog 56 #[.agg #[.int .i64 a, .int .i64 d, .int .i64 l]] w (RetGB w (rightB a d l)) := by
 have hb : Below w.heap.size w (w.alloc (.cells #[.int .i64 a, .int .i64 d, .int .i64 l] 23)) := (Below.refl _ _).alloc (Nat.le_refl _) _
 have hc := (Blk.new w 23 #[.int .i64 a, .int .i64 d, .int .i64 l])
 have hlt := hc.lt
 obtain ⟨wl, hwl⟩ : ∃ wl, wl = w.alloc (.cells #[.int .i64 a, .int .i64 d, .int .i64 l] 23) := ⟨_, rfl⟩
 rw [← hwl] at hb hc hlt
 have HB := Lib.hid hb; have HC := Lib.hid hc; have HWL := Lib.hid hwl; clear hb hc hwl
 go_enter Tryz.func56, Tryz.ntmps56
 go_wp2_with fail
 rw [← HWL.out]
 refine (least_any a d l _).mono ?_
 rintro e w1 ⟨rfl, b1⟩
 have HB1 := Lib.hid (bBo HB.out b1)
 have c2 : w1.cell? ⟨w.heap.size, 2, none⟩ = some (.int .i64 l) := by rw [b1.cell hlt, HC.out.cell]; rfl
 clear b1 hlt
 have HP := Lib.hid (leastI_pos a d)
 cases h1 : okAD a d
 · have t1 : decide (0 < leastI a d) = false := by rw [HP.out, h1]
   go_wp2
   go_ret
   exact ⟨ret_bool (by unfold rightB; rw [h1]; rfl), HB1.out⟩
 · have t1 : decide (0 < leastI a d) = true := by rw [HP.out, h1]
   have HE := Lib.hid (leastI_of h1)
   by_cases h2 : d + 2 ≤ l
   · have t2 : decide (leastI a d ≤ l) = true := by rw [HE.out]; simpa using h2
     go_wp2
     go_ret
     exact ⟨ret_bool (by unfold rightB; rw [h1, decide_eq_true h2]; rfl), HB1.out⟩
   · have t2 : decide (leastI a d ≤ l) = false := by rw [HE.out]; simpa using h2
     go_wp2
     go_ret
     exact ⟨ret_bool (by unfold rightB; rw [h1, decide_eq_false (show ¬ (d + 2 ≤ l) by omega)]; rfl), HB1.out⟩
set_option maxHeartbeats 1000000 in
theorem refGeoRight_any (a d l : Int) (w : World) :
 Calls Tryz.prog 4 #[.agg #[.int .i64 a, .int .i64 d, .int .i64 l]] w (RetGB w (rightB a d l)) := by
 have hb : Below w.heap.size w (w.alloc (.cells #[.int .i64 a, .int .i64 d, .int .i64 l] 23)) := (Below.refl _ _).alloc (Nat.le_refl _) _
 have hc := (Blk.new w 23 #[.int .i64 a, .int .i64 d, .int .i64 l])
 obtain ⟨wl, hwl⟩ : ∃ wl, wl = w.alloc (.cells #[.int .i64 a, .int .i64 d, .int .i64 l] 23) := ⟨_, rfl⟩
 rw [← hwl] at hb hc
 have HB := Lib.hid hb; have HC := Lib.hid hc; have HWL := Lib.hid hwl; clear hb hc hwl
 have HCELL : Hid (∀ (i : Nat) (v : Value), [Value.int .i64 a, .int .i64 d, .int .i64 l][i]? = some v → ∀ wq, Below wl.heap.size wl wq → wq.cell? ⟨w.heap.size, i, none⟩ = some v) := by
  intro i v hv wq hq
  rw [hq.cell (p := ⟨w.heap.size, i, none⟩) HC.out.lt, HC.out.cell]
  exact hv
 have HP := Lib.hid (leastI_pos a d)
 cases h1 : okAD a d
 · have t1 : decide (0 < leastI a d) = false := by rw [HP.out, h1]
   go_enter Tryz.func4, Tryz.ntmps4
   go_wp2_with fail
   rw [← HWL.out]
   refine wp_region_quiet (C := fun w' => Below (wl).heap.size (wl) w') (by kernel_rfl) (by kernel_rfl) (Below.refl _ _).drew ?_
   simp only
   repeat (first
    | go_big_quiet_skip
    | (go_big_quiet_want
       apply Exists.intro
       refine ⟨fun wq hq => ?_, ?_⟩
       · (have c0 := HCELL.out 0 _ rfl wq hq; have c1 := HCELL.out 1 _ rfl wq hq; have c2 := HCELL.out 2 _ rfl wq hq
          go_simp
          first
           | done
           | exact rfl
           | (with_reducible exact ⟨rfl, rfl⟩)
           | (go_at_call 17; exact (refLeast_any a d l wq).mono fun e w2 ⟨he, hb⟩ => ⟨he, bBo hq hb⟩))
       go_simp
       go_big_quiet_on))
   refine wpQuiet_nil ?_
   intro wq hq
   go_wp2
   go_ret
   exact ⟨ret_bool (by unfold rightB; rw [h1]; rfl), bBo HB.out hq⟩
 · have t1 : decide (0 < leastI a d) = true := by rw [HP.out, h1]
   have HE := Lib.hid (leastI_of h1)
   by_cases h2 : d + 2 ≤ l
   · have t2 : decide (leastI a d ≤ l) = true := by rw [HE.out]; simpa using h2
     go_enter Tryz.func4, Tryz.ntmps4
     go_wp2_with fail
     rw [← HWL.out]
     refine wp_region_quiet (C := fun w' => Below (wl).heap.size (wl) w') (by kernel_rfl) (by kernel_rfl) (Below.refl _ _).drew ?_
     simp only
     repeat (first
      | go_big_quiet_skip
      | (go_big_quiet_want
         apply Exists.intro
         refine ⟨fun wq hq => ?_, ?_⟩
         · (have c0 := HCELL.out 0 _ rfl wq hq; have c1 := HCELL.out 1 _ rfl wq hq; have c2 := HCELL.out 2 _ rfl wq hq
            go_simp
            first
             | done
             | exact rfl
             | (with_reducible exact ⟨rfl, rfl⟩)
             | (go_at_call 17; exact (refLeast_any a d l wq).mono fun e w2 ⟨he, hb⟩ => ⟨he, bBo hq hb⟩))
         go_simp
         go_big_quiet_on))
     refine wpQuiet_nil ?_
     intro wq hq
     go_wp2
     go_ret
     exact ⟨ret_bool (by unfold rightB; rw [h1, decide_eq_true h2]; rfl), bBo HB.out hq⟩
   · have t2 : decide (leastI a d ≤ l) = false := by rw [HE.out]; simpa using h2
     go_enter Tryz.func4, Tryz.ntmps4
     go_wp2_with fail
     rw [← HWL.out]
     refine wp_region_quiet (C := fun w' => Below (wl).heap.size (wl) w') (by kernel_rfl) (by kernel_rfl) (Below.refl _ _).drew ?_
     simp only
     repeat (first
      | go_big_quiet_skip
      | (go_big_quiet_want
         apply Exists.intro
         refine ⟨fun wq hq => ?_, ?_⟩
         · (have c0 := HCELL.out 0 _ rfl wq hq; have c1 := HCELL.out 1 _ rfl wq hq; have c2 := HCELL.out 2 _ rfl wq hq
            go_simp
            first
             | done
             | exact rfl
             | (with_reducible exact ⟨rfl, rfl⟩)
             | (go_at_call 17; exact (refLeast_any a d l wq).mono fun e w2 ⟨he, hb⟩ => ⟨he, bBo hq hb⟩))
         go_simp
         go_big_quiet_on))
     refine wpQuiet_nil ?_
     intro wq hq
     go_wp2
     go_ret
     exact ⟨ret_bool (by unfold rightB; rw [h1, decide_eq_false (show ¬ (d + 2 ≤ l) by omega)]; rfl), bBo HB.out hq⟩
theorem nodesI_of {a d l : Int} {x y : Nat} (h : rightB a d l = true) (hx : a = x) (hy : d = y) : nodesI a d l = ndN x y := by subst hx hy; simp [nodesI, h]
theorem leavesI_of {a d l : Int} {x y : Nat} (h : rightB a d l = true) (hx : a = x) (hy : d = y) : leavesI a d l = ((x ^ y : Nat) : Int) := by subst hx hy; simp [leavesI, h]
theorem nodesI_no {a d l : Int} (h : rightB a d l = false) : nodesI a d l = 0 := by simp [nodesI, h]
theorem leavesI_no {a d l : Int} (h : rightB a d l = false) : leavesI a d l = 0 := by simp [leavesI, h]
theorem pow_mul_le {x k : Nat} (h : x ≤ 4) (hk : k ≤ 3) : x ^ k * x ≤ 256 := Nat.le_trans (Nat.mul_le_mul (pow_le64 h hk) h) (by decide)
def RetII (w : World) (n m : Int) (e : Ending) (w' : World) : Prop := e = .returned (.tuple #[.int .i64 n, .int .i64 m]) ∧ Below w.heap.size w w'
set_option maxHeartbeats 1000000 in
theorem levels_any (a d l : Int) (w : World) :
 Calls Tryz.prog 124 #[.agg #[.int .i64 a, .int .i64 d, .int .i64 l]] w (RetII w (nodesI a d l) (leavesI a d l)) := by
 have hb : Below w.heap.size w (w.alloc (.cells #[.int .i64 a, .int .i64 d, .int .i64 l] 23)) := (Below.refl _ _).alloc (Nat.le_refl _) _
 have hc := (Blk.new w 23 #[.int .i64 a, .int .i64 d, .int .i64 l])
 obtain ⟨wl, hwl⟩ : ∃ wl, wl = w.alloc (.cells #[.int .i64 a, .int .i64 d, .int .i64 l] 23) := ⟨_, rfl⟩
 rw [← hwl] at hb hc
 have HB := Lib.hid hb; have HWL := Lib.hid hwl; clear hb hwl
 have HCELL : Hid (∀ (i : Nat) (v : Value), [Value.int .i64 a, .int .i64 d, .int .i64 l][i]? = some v → ∀ wq, Below wl.heap.size wl wq → wq.cell? ⟨w.heap.size, i, none⟩ = some v) := by
  intro i v hv wq hq
  rw [hq.cell (p := ⟨w.heap.size, i, none⟩) hc.lt, hc.cell]
  exact hv
 clear hc
 cases hr : rightB a d l
 · have HN := Lib.hid (nodesI_no hr)
   have HL := Lib.hid (leavesI_no hr)
   go_enter Tryz.func124, Tryz.ntmps124
   go_wp2_with fail
   rw [← HWL.out]
   refine (gRa a d l _).mono ?_
   rintro e w1 ⟨rfl, b1⟩
   rw [hr]
   go_wp2
   go_ret2
   rw [HN.out, HL.out]
   exact ⟨rfl, bBo HB.out b1⟩
 · obtain ⟨x, y, rfl, rfl, hx1, hx2, hy1, hy2⟩ := rightB_ok hr
   have HN := Lib.hid (nodesI_of hr rfl rfl)
   have HL := Lib.hid (leavesI_of hr rfl rfl)
   go_enter Tryz.func124, Tryz.ntmps124
   go_wp2_with fail
   rw [← HWL.out]
   refine (gRa _ _ l _).mono ?_
   rintro e w1 ⟨rfl, b1⟩
   rw [hr]
   have c0 := HCELL.out 0 _ rfl w1 b1
   have c1 := HCELL.out 1 _ rfl w1 b1
   have c2 := HCELL.out 2 _ rfl w1 b1
   have B1 := Lib.hid b1; clear b1 hr
   go_wp2
   go_loop [2, 3, 9] (fun n m i => ∃ k : Nat, k ≤ y ∧ i = .int .i64 k ∧ n = .int .i64 (ndN x k : Nat) ∧ m = .int .i64 ((x ^ k : Nat) : Int)) (fun _ _ i => y - (intOf i).toNat)
   case atStart => exact ⟨0, Nat.zero_le _, rfl, rfl, rfl⟩
   case round =>
    obtain ⟨k, hk, rfl, rfl, rfl⟩ := hrel
    by_cases hlt : k < y
    · skip
      have p1 := pow_le64 hx2 (show k ≤ 3 by omega)
      have p2 := ndN_le hx2 k (by omega)
      have p3 := pow_mul_le hx2 (show k ≤ 3 by omega)
      have p4 : ((x ^ k : Nat) : Int) * (x : Int) ≤ 256 := by rw [← Int.natCast_mul]; omega
      have p5 : 0 ≤ ((x ^ k : Nat) : Int) * (x : Int) := Int.mul_nonneg (Int.natCast_nonneg _) (Int.natCast_nonneg _)
      have HP : Hid (((x ^ (k + 1) : Nat) : Int) = ((x ^ k : Nat) : Int) * (x : Int)) := by show _ = _; rw [Nat.pow_succ]; simp
      have HD : Hid (((ndN x (k + 1) : Nat) : Int) = (ndN x k : Int) + ((x ^ k : Nat) : Int)) := by show _ = _; simp [ndN]
      clear p3
      generalize x ^ k = q at *
      generalize ndN x k = r at *
      go_wp2
      go_round
      case rel => exact ⟨k + 1, by omega, by go_num, by rw [HD.out], by rw [HP.out]⟩
      case measure => simp [intOf]; omega
    · obtain rfl : y = k := by omega
      go_wp2
      go_ret2
      rw [HN.out, HL.out]
      exact ⟨rfl, bBo HB.out B1.out⟩
theorem nodes_any (a d l : Int) (w : World) :
 Calls Tryz.prog 89 #[.agg #[.int .i64 a, .int .i64 d, .int .i64 l]] w (RetI w (nodesI a d l)) := by
 have hb : Below w.heap.size w (w.alloc (.cells #[.int .i64 a, .int .i64 d, .int .i64 l] 23)) := (Below.refl _ _).alloc (Nat.le_refl _) _
 have hc := (Blk.new w 23 #[.int .i64 a, .int .i64 d, .int .i64 l])
 obtain ⟨wl, hwl⟩ : ∃ wl, wl = w.alloc (.cells #[.int .i64 a, .int .i64 d, .int .i64 l] 23) := ⟨_, rfl⟩
 rw [← hwl] at hb hc
 have HB := Lib.hid hb; have HWL := Lib.hid hwl; clear hb hwl
 have HCELL : Hid (∀ (i : Nat) (v : Value), [Value.int .i64 a, .int .i64 d, .int .i64 l][i]? = some v → ∀ wq, Below wl.heap.size wl wq → wq.cell? ⟨w.heap.size, i, none⟩ = some v) := by
  intro i v hv wq hq
  rw [hq.cell (p := ⟨w.heap.size, i, none⟩) hc.lt, hc.cell]
  exact hv
 clear hc
 go_enter Tryz.func89, Tryz.ntmps89
 go_wp2_with fail
 rw [← HWL.out]
 refine (levels_any a d l _).mono ?_
 rintro e w1 ⟨rfl, b1⟩
 have B1 := Lib.hid b1; clear b1
 go_wp2
 go_ret
 exact ⟨rfl, bBo HB.out B1.out⟩
theorem leaves_any (a d l : Int) (w : World) :
 Calls Tryz.prog 52 #[.agg #[.int .i64 a, .int .i64 d, .int .i64 l]] w (RetI w (leavesI a d l)) := by
 have hb : Below w.heap.size w (w.alloc (.cells #[.int .i64 a, .int .i64 d, .int .i64 l] 23)) := (Below.refl _ _).alloc (Nat.le_refl _) _
 have hc := (Blk.new w 23 #[.int .i64 a, .int .i64 d, .int .i64 l])
 obtain ⟨wl, hwl⟩ : ∃ wl, wl = w.alloc (.cells #[.int .i64 a, .int .i64 d, .int .i64 l] 23) := ⟨_, rfl⟩
 rw [← hwl] at hb hc
 have HB := Lib.hid hb; have HWL := Lib.hid hwl; clear hb hwl
 have HCELL : Hid (∀ (i : Nat) (v : Value), [Value.int .i64 a, .int .i64 d, .int .i64 l][i]? = some v → ∀ wq, Below wl.heap.size wl wq → wq.cell? ⟨w.heap.size, i, none⟩ = some v) := by
  intro i v hv wq hq
  rw [hq.cell (p := ⟨w.heap.size, i, none⟩) hc.lt, hc.cell]
  exact hv
 clear hc
 go_enter Tryz.func52, Tryz.ntmps52
 go_wp2_with fail
 rw [← HWL.out]
 refine (levels_any a d l _).mono ?_
 rintro e w1 ⟨rfl, b1⟩
 have B1 := Lib.hid b1; clear b1
 go_wp2
 go_ret
 exact ⟨rfl, bBo HB.out B1.out⟩
theorem nodes_le (a d l : Int) : 0 ≤ nodesI a d l ∧ nodesI a d l ≤ 200 := by
 cases hr : rightB a d l
 · rw [nodesI_no hr]; omega
 · obtain ⟨x, y, hx, hy, hx1, hx2, hy1, hy2⟩ := rightB_ok hr
   rw [nodesI_of hr hx hy]
   have := ndN_le hx2 y hy2
   omega
theorem leaves_le (a d l : Int) : 0 ≤ leavesI a d l ∧ leavesI a d l ≤ 64 := by
 cases hr : rightB a d l
 · rw [leavesI_no hr]; omega
 · obtain ⟨x, y, hx, hy, hx1, hx2, hy1, hy2⟩ := rightB_ok hr
   rw [leavesI_of hr hx hy]
   have := pow_le64 hx2 hy2
   omega
def pagesI (a d l : Int) : Int := nodesI a d l + leavesI a d l
theorem pages_any (a d l : Int) (w : World) :
 Calls Tryz.prog 134 #[.agg #[.int .i64 a, .int .i64 d, .int .i64 l]] w (RetI w (pagesI a d l)) := by
 have hb : Below w.heap.size w (w.alloc (.cells #[.int .i64 a, .int .i64 d, .int .i64 l] 23)) := (Below.refl _ _).alloc (Nat.le_refl _) _
 have hc := (Blk.new w 23 #[.int .i64 a, .int .i64 d, .int .i64 l])
 obtain ⟨wl, hwl⟩ : ∃ wl, wl = w.alloc (.cells #[.int .i64 a, .int .i64 d, .int .i64 l] 23) := ⟨_, rfl⟩
 rw [← hwl] at hb hc
 have HB := Lib.hid hb; have HWL := Lib.hid hwl; clear hb hwl
 have HCELL : Hid (∀ (i : Nat) (v : Value), [Value.int .i64 a, .int .i64 d, .int .i64 l][i]? = some v → ∀ wq, Below wl.heap.size wl wq → wq.cell? ⟨w.heap.size, i, none⟩ = some v) := by
  intro i v hv wq hq
  rw [hq.cell (p := ⟨w.heap.size, i, none⟩) hc.lt, hc.cell]
  exact hv
 clear hc
 have n1 := nodes_le a d l
 have n2 := leaves_le a d l
 go_enter Tryz.func134, Tryz.ntmps134
 go_wp2_with fail
 rw [← HWL.out]
 refine (levels_any a d l _).mono ?_
 rintro e w1 ⟨rfl, b1⟩
 have B1 := Lib.hid b1; clear b1
 go_wp2
 go_ret
 exact ⟨rfl, bBo HB.out B1.out⟩
set_option maxHeartbeats 1000000 in
theorem refLeaves_any (a d l : Int) (w : World) :
 Calls Tryz.prog 55 #[.agg #[.int .i64 a, .int .i64 d, .int .i64 l]] w (RetI w (leavesI a d l)) := by
 have hb : Below w.heap.size w (w.alloc (.cells #[.int .i64 a, .int .i64 d, .int .i64 l] 23)) := (Below.refl _ _).alloc (Nat.le_refl _) _
 have hc := (Blk.new w 23 #[.int .i64 a, .int .i64 d, .int .i64 l])
 obtain ⟨wl, hwl⟩ : ∃ wl, wl = w.alloc (.cells #[.int .i64 a, .int .i64 d, .int .i64 l] 23) := ⟨_, rfl⟩
 rw [← hwl] at hb hc
 have HB := Lib.hid hb; have HWL := Lib.hid hwl; clear hb hwl
 have HCELL : Hid (∀ (i : Nat) (v : Value), [Value.int .i64 a, .int .i64 d, .int .i64 l][i]? = some v → ∀ wq, Below wl.heap.size wl wq → wq.cell? ⟨w.heap.size, i, none⟩ = some v) := by
  intro i v hv wq hq
  rw [hq.cell (p := ⟨w.heap.size, i, none⟩) hc.lt, hc.cell]
  exact hv
 clear hc
 cases hr : rightB a d l
 · have HL := Lib.hid (leavesI_no hr)
   go_enter Tryz.func55, Tryz.ntmps55
   go_wp2_with fail
   rw [← HWL.out]
   refine (refGeoRight_any a d l _).mono ?_
   rintro e w1 ⟨rfl, b1⟩
   rw [hr]
   go_wp2
   go_ret
   rw [HL.out]
   exact ⟨rfl, bBo HB.out b1⟩
 · obtain ⟨x, y, rfl, rfl, hx1, hx2, hy1, hy2⟩ := rightB_ok hr
   have HL := Lib.hid (leavesI_of hr rfl rfl)
   go_enter Tryz.func55, Tryz.ntmps55
   go_wp2_with fail
   rw [← HWL.out]
   refine (refGeoRight_any _ _ l _).mono ?_
   rintro e w1 ⟨rfl, b1⟩
   rw [hr]
   have c0 := HCELL.out 0 _ rfl w1 b1
   have c1 := HCELL.out 1 _ rfl w1 b1
   have c2 := HCELL.out 2 _ rfl w1 b1
   have B1 := Lib.hid b1; clear b1 hr
   go_wp2
   go_loop [3, 4] (fun m i => ∃ k : Nat, k ≤ y ∧ i = .int .i64 k ∧ m = .int .i64 ((x ^ k : Nat) : Int)) (fun _ i => y - (intOf i).toNat)
   case atStart => exact ⟨0, Nat.zero_le _, rfl, rfl⟩
   case round =>
    obtain ⟨k, hk, rfl, rfl⟩ := hrel
    by_cases hlt : k < y
    · skip
      have p1 := pow_le64 hx2 (show k ≤ 3 by omega)
      have p2 := ndN_le hx2 k (by omega)
      have p3 := pow_mul_le hx2 (show k ≤ 3 by omega)
      have p4 : ((x ^ k : Nat) : Int) * (x : Int) ≤ 256 := by rw [← Int.natCast_mul]; omega
      have p5 : 0 ≤ ((x ^ k : Nat) : Int) * (x : Int) := Int.mul_nonneg (Int.natCast_nonneg _) (Int.natCast_nonneg _)
      have HP : Hid (((x ^ (k + 1) : Nat) : Int) = ((x ^ k : Nat) : Int) * (x : Int)) := by show _ = _; rw [Nat.pow_succ]; simp
      have HD : Hid (((ndN x (k + 1) : Nat) : Int) = (ndN x k : Int) + ((x ^ k : Nat) : Int)) := by show _ = _; simp [ndN]
      clear p3
      generalize x ^ k = q at *
      generalize ndN x k = r at *
      go_wp2
      go_round
      case rel => exact ⟨k + 1, by omega, by go_num, by rw [HP.out]⟩
      case measure => simp [intOf]; omega
    · obtain rfl : y = k := by omega
      go_wp2
      go_ret
      rw [HL.out]
      exact ⟨rfl, bBo HB.out B1.out⟩
set_option maxHeartbeats 1000000 in
theorem refNodes_any (a d l : Int) (w : World) :
 Calls Tryz.prog 54 #[.agg #[.int .i64 a, .int .i64 d, .int .i64 l]] w (RetI w (nodesI a d l)) := by
 have hb : Below w.heap.size w (w.alloc (.cells #[.int .i64 a, .int .i64 d, .int .i64 l] 23)) := (Below.refl _ _).alloc (Nat.le_refl _) _
 have hc := (Blk.new w 23 #[.int .i64 a, .int .i64 d, .int .i64 l])
 obtain ⟨wl, hwl⟩ : ∃ wl, wl = w.alloc (.cells #[.int .i64 a, .int .i64 d, .int .i64 l] 23) := ⟨_, rfl⟩
 rw [← hwl] at hb hc
 have HB := Lib.hid hb; have HWL := Lib.hid hwl; clear hb hwl
 have HCELL : Hid (∀ (i : Nat) (v : Value), [Value.int .i64 a, .int .i64 d, .int .i64 l][i]? = some v → ∀ wq, Below wl.heap.size wl wq → wq.cell? ⟨w.heap.size, i, none⟩ = some v) := by
  intro i v hv wq hq
  rw [hq.cell (p := ⟨w.heap.size, i, none⟩) hc.lt, hc.cell]
  exact hv
 clear hc
 cases hr : rightB a d l
 · have HL := Lib.hid (nodesI_no hr)
   go_enter Tryz.func54, Tryz.ntmps54
   go_wp2_with fail
   rw [← HWL.out]
   refine (refGeoRight_any a d l _).mono ?_
   rintro e w1 ⟨rfl, b1⟩
   rw [hr]
   go_wp2
   go_ret
   rw [HL.out]
   exact ⟨rfl, bBo HB.out b1⟩
 · obtain ⟨x, y, rfl, rfl, hx1, hx2, hy1, hy2⟩ := rightB_ok hr
   have HL := Lib.hid (nodesI_of hr rfl rfl)
   go_enter Tryz.func54, Tryz.ntmps54
   go_wp2_with fail
   rw [← HWL.out]
   refine (refGeoRight_any _ _ l _).mono ?_
   rintro e w1 ⟨rfl, b1⟩
   rw [hr]
   have c0 := HCELL.out 0 _ rfl w1 b1
   have c1 := HCELL.out 1 _ rfl w1 b1
   have c2 := HCELL.out 2 _ rfl w1 b1
   have B1 := Lib.hid b1; clear b1 hr
   go_wp2
   go_loop [3, 4, 5] (fun m n i => ∃ k : Nat, k ≤ y ∧ i = .int .i64 k ∧ n = .int .i64 (ndN x k : Nat) ∧ m = .int .i64 ((x ^ k : Nat) : Int)) (fun _ _ i => y - (intOf i).toNat)
   case atStart => exact ⟨0, Nat.zero_le _, rfl, rfl, rfl⟩
   case round =>
    obtain ⟨k, hk, rfl, rfl, rfl⟩ := hrel
    by_cases hlt : k < y
    · skip
      have p1 := pow_le64 hx2 (show k ≤ 3 by omega)
      have p2 := ndN_le hx2 k (by omega)
      have p3 := pow_mul_le hx2 (show k ≤ 3 by omega)
      have p4 : ((x ^ k : Nat) : Int) * (x : Int) ≤ 256 := by rw [← Int.natCast_mul]; omega
      have p5 : 0 ≤ ((x ^ k : Nat) : Int) * (x : Int) := Int.mul_nonneg (Int.natCast_nonneg _) (Int.natCast_nonneg _)
      have HP : Hid (((x ^ (k + 1) : Nat) : Int) = ((x ^ k : Nat) : Int) * (x : Int)) := by show _ = _; rw [Nat.pow_succ]; simp
      have HD : Hid (((ndN x (k + 1) : Nat) : Int) = (ndN x k : Int) + ((x ^ k : Nat) : Int)) := by show _ = _; simp [ndN]
      clear p3
      generalize x ^ k = q at *
      generalize ndN x k = r at *
      go_wp2
      go_round
      case rel => exact ⟨k + 1, by omega, by go_num, by rw [HD.out], by rw [HP.out]⟩
      case measure => simp [intOf]; omega
    · obtain rfl : y = k := by omega
      go_wp2
      go_ret
      rw [HL.out]
      exact ⟨rfl, bBo HB.out B1.out⟩
theorem refPages_any (a d l : Int) (w : World) :
 Calls Tryz.prog 18 #[.agg #[.int .i64 a, .int .i64 d, .int .i64 l]] w (RetI w (pagesI a d l)) := by
 have hb : Below w.heap.size w (w.alloc (.cells #[.int .i64 a, .int .i64 d, .int .i64 l] 23)) := (Below.refl _ _).alloc (Nat.le_refl _) _
 have hc := (Blk.new w 23 #[.int .i64 a, .int .i64 d, .int .i64 l])
 obtain ⟨wl, hwl⟩ : ∃ wl, wl = w.alloc (.cells #[.int .i64 a, .int .i64 d, .int .i64 l] 23) := ⟨_, rfl⟩
 rw [← hwl] at hb hc
 have HB := Lib.hid hb; have HWL := Lib.hid hwl; clear hb hwl
 have HCELL : Hid (∀ (i : Nat) (v : Value), [Value.int .i64 a, .int .i64 d, .int .i64 l][i]? = some v → ∀ wq, Below wl.heap.size wl wq → wq.cell? ⟨w.heap.size, i, none⟩ = some v) := by
  intro i v hv wq hq
  rw [hq.cell (p := ⟨w.heap.size, i, none⟩) hc.lt, hc.cell]
  exact hv
 clear hc
 have n1 := nodes_le a d l
 have n2 := leaves_le a d l
 have hw : IntKind.i64.wrap (nodesI a d l + leavesI a d l) = nodesI a d l + leavesI a d l := IntWalk.i64_in _ (by omega)
 go_enter Tryz.func18, Tryz.ntmps18
 go_wp2_with fail
 rw [← HWL.out]
 refine wp_region_quiet (C := fun w' => Below (wl).heap.size (wl) w') (by kernel_rfl) (by kernel_rfl) (Below.refl _ _).drew ?_
 simp only
 repeat (first
  | go_big_quiet_skip
  | (go_big_quiet_want
     apply Exists.intro
     refine ⟨fun wq hq => ?_, ?_⟩
     · (have c0 := HCELL.out 0 _ rfl wq hq; have c1 := HCELL.out 1 _ rfl wq hq; have c2 := HCELL.out 2 _ rfl wq hq
        go_simp
        first
         | done
         | exact rfl
         | (with_reducible exact ⟨rfl, rfl⟩)
         | (go_at_call 54; exact (refNodes_any a d l wq).mono fun e w2 ⟨he, hb⟩ => ⟨he, bBo hq hb⟩) | (go_at_call 55; exact (refLeaves_any a d l wq).mono fun e w2 ⟨he, hb⟩ => ⟨he, bBo hq hb⟩))
     go_simp
     go_big_quiet_on))
 refine wpQuiet_nil ?_
 intro wq hq
 have HQ := Lib.hid hq; clear hq
 go_wp2
 go_ret
 exact ⟨rfl, bBo HB.out HQ.out⟩
end
section
def upF (x : Nat) : Nat → Nat → List Nat
 | 0, _ => []
 | f + 1, p => p :: if p = 0 then [] else upF x f ((p - 1) / x)
theorem upF_fuel (x : Nat) : ∀ f f' p, p < f → p < f' → upF x f p = upF x f' p
 | 0, _, p, h, _ => absurd h (by omega)
 | _, 0, p, _, h => absurd h (by omega)
 | f + 1, f' + 1, p, h, h' => by
  unfold upF
  by_cases hp : p = 0
  · simp [hp]
  · have : (p - 1) / x ≤ p - 1 := Nat.div_le_self _ _
    simp only [hp, if_false]
    rw [upF_fuel x f f' _ (by omega) (by omega)]
def upL (x p : Nat) : List Nat := upF x (p + 1) p
theorem upL_zero (x : Nat) : upL x 0 = [0] := rfl
theorem upL_pos (x p : Nat) (h : 0 < p) : upL x p = p :: upL x ((p - 1) / x) := by
 have hd : (p - 1) / x ≤ p - 1 := Nat.div_le_self _ _
 show upF x (p + 1) p = p :: upF x ((p - 1) / x + 1) ((p - 1) / x)
 rw [upF, if_neg (by omega), upF_fuel x p _ _ (by omega) (Nat.lt_succ_self _)]
theorem upL_le (x : Nat) : ∀ p, (upL x p).length ≤ p + 1 := by
 intro p
 have : ∀ f p, (upF x f p).length ≤ f := by
  intro f
  induction f with
  | zero => intro p; simp [upF]
  | succ f ih => intro p; unfold upF; split <;> simp; exact ih _
 exact this (p + 1) p
def pgN (x y : Nat) : Nat := ndN x y + x ^ y
theorem pgN_run : ((List.range 5).all fun x => (List.range 4).all fun y => !(decide (2 ≤ x) && decide (1 ≤ y)) || decide (pgN x y ≤ 85)) = true := by decide +kernel
theorem pgN_lt {x y : Nat} (h1 : 2 ≤ x) (h2 : x ≤ 4) (h3 : 1 ≤ y) (h4 : y ≤ 3) : pgN x y ≤ 85 := by
 have h := List.all_eq_true.1 (List.all_eq_true.1 pgN_run x (List.mem_range.2 (by omega))) y (List.mem_range.2 (by omega))
 simpa [h1, h3] using h
section
variable (a d l : Int)
def thereB (p : Int) : Bool := decide (0 ≤ p ∧ p < nodesI a d l + leavesI a d l)
def childI (n k : Int) : Int := if 0 ≤ n ∧ n < nodesI a d l ∧ 0 ≤ k ∧ k < a then a * n + 1 + k else -1
def parentI (p : Int) : Int := if 1 ≤ p ∧ p < nodesI a d l + leavesI a d l then (p - 1) / a else -1
def whichI (p : Int) : Int := if 1 ≤ p ∧ p < nodesI a d l + leavesI a d l then (p - 1) % a else -1
def upI (p : Int) : List Int := if thereB a d l p then (upL a.toNat p.toNat).map fun (n : Nat) => (n : Int) else []
def leafI (s : Int) : Int := if 0 ≤ s ∧ s < leavesI a d l then nodesI a d l + s else -1
def slotI (p : Int) : Int := if 0 ≤ p ∧ nodesI a d l ≤ p ∧ p < nodesI a d l + leavesI a d l then p - nodesI a d l else -1
end
end
end Go.Proofs.YtdkmlmbehlooiaaGreatDoor
