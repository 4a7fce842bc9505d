import Derived.Test.YtbmijjodpdbbmaaObShapeW
namespace Go.Proofs.Ytbmijjodpdbbmaa
open Go.RowKit
set_option linter.unusedVariables false

/-! ### the document's: level by level -/
set_option maxHeartbeats 1000000 in
theorem at_any (x lv pl : Nat) (d l : Int) (w : World) (hx : x ≤ 4) (hl : lv ≤ 4) (hp : pl ≤ 10000) :
    Calls Try.prog 63 #[.agg #[.int .i64 (x : Int), .int .i64 d, .int .i64 l], .int .i64 (lv : Int), .int .i64 (pl : Int)] w (RetI w ((ndN x lv + pl : Nat) : Int)) := by
  have hb : Below w.heap.size w (w.alloc (.cells #[.int .i64 (x : Int), .int .i64 d, .int .i64 l] 40)) := (Below.refl _ _).alloc (Nat.le_refl _) _
  have HB := Lib.hid hb; clear hb
  go_enter Try.func63, Try.ntmps63
  go_wp2
  go_loop [7, 8, 9] (fun n m i => ∃ k : Nat, k ≤ lv ∧ i = .int .i64 k ∧ n = .int .i64 (ndN x k : Nat) ∧ m = .int .i64 ((x ^ k : Nat) : Int)) (fun _ _ i => lv - (intOf i).toNat)
  case atStart => exact ⟨0, Nat.zero_le _, rfl, rfl, rfl⟩
  case round =>
    obtain ⟨k, hk, rfl, rfl, rfl⟩ := hrel
    have hx2 := hx
    by_cases hlt : k < lv
    · skip
      have p1 := pow_le64 hx2 (show k ≤ 3 by omega)
      have p2 := ndN_le hx2 k (by omega)
      have p3 := pow_mul_le hx2 (show k ≤ 3 by omega)
      have p4 : ((x ^ k : Nat) : Int) * (x : Int) ≤ 256 := by rw [← Int.natCast_mul]; omega
      have p5 : 0 ≤ ((x ^ k : Nat) : Int) * (x : Int) := Int.mul_nonneg (Int.natCast_nonneg _) (Int.natCast_nonneg _)
      have HP : Hid (((x ^ (k + 1) : Nat) : Int) = ((x ^ k : Nat) : Int) * (x : Int)) := by show _ = _; rw [Nat.pow_succ]; simp
      have HD : Hid (((ndN x (k + 1) : Nat) : Int) = (ndN x k : Int) + ((x ^ k : Nat) : Int)) := by show _ = _; simp [ndN]
      clear p3
      generalize x ^ k = q at *
      generalize ndN x k = r at *
      go_wp2
      go_round
      case rel => exact ⟨k + 1, by omega, by go_num, by rw [HD.out], by rw [HP.out]⟩
      case measure => simp [intOf]; omega
    · obtain rfl : lv = k := by omega
      have hnd : ndN x lv ≤ 1000 := by
        rcases Nat.lt_or_ge 3 lv with h | h
        · obtain rfl : lv = 4 := by omega
          have h1 := ndN_le hx 3 (by omega)
          have h2 := pow_le64 hx (show 3 ≤ 3 by omega)
          show ndN x 3 + x ^ 3 ≤ 1000
          omega
        · have h1 := ndN_le hx lv h
          omega
      go_wp2
      go_ret
      exact ⟨ret_int (by omega), HB.out⟩

def RetP (w : World) (r : Nat × Nat × Bool) (e : Ending) (w' : World) : Prop := e = .returned (.tuple #[.int .i64 (r.1 : Int), .int .i64 (r.2.1 : Int), .bool r.2.2]) ∧ Below w.heap.size w w'
theorem placeI_yes {a d l p : Int} (h : thereB a d l p = true) : placeI a d l p = ((plcL a.toNat p.toNat).1, (plcL a.toNat p.toNat).2, true) := by unfold placeI; rw [if_pos h]
theorem placeI_no {a d l p : Int} (h : thereB a d l p = false) : placeI a d l p = (0, 0, false) := by unfold placeI; rw [if_neg (by rw [h]; simp)]
theorem plc_step (x f p w l : Nat) (h : w ≤ p) : plc x (f + 1) p w l = plc x f (p - w) (w * x) (l + 1) := by rw [plc, if_pos h]
theorem plc_stop (x f p w l : Nat) (h : p < w) : plc x f p w l = (l, p) := by
  cases f with
  | zero => rfl
  | succ f => rw [plc, if_neg (by omega)]

set_option maxHeartbeats 1000000 in
theorem place_any (a d l p : Int) (w : World) :
    Calls Try.prog 64 #[.agg #[.int .i64 a, .int .i64 d, .int .i64 l], .int .i64 p] w (RetP w (placeI a d l p)) := by
  have hb : Below w.heap.size w (w.alloc (.cells #[.int .i64 a, .int .i64 d, .int .i64 l] 40)) := (Below.refl _ _).alloc (Nat.le_refl _) _
  have hc := (Blk.new w 40 #[.int .i64 a, .int .i64 d, .int .i64 l])
  obtain ⟨wl, hwl⟩ : ∃ wl, wl = w.alloc (.cells #[.int .i64 a, .int .i64 d, .int .i64 l] 40) := ⟨_, rfl⟩
  rw [← hwl] at hb hc
  have HB := Lib.hid hb; have HWL := Lib.hid hwl; clear hb hwl
  have HCELL : Hid (∀ (i : Nat) (v : Value), [Value.int .i64 a, .int .i64 d, .int .i64 l][i]? = some v → ∀ wq, Below wl.heap.size wl wq → wq.cell? ⟨w.heap.size, i, none⟩ = some v) := by
    intro i v hv wq hq
    rw [hq.cell (p := ⟨w.heap.size, i, none⟩) hc.lt, hc.cell]
    exact hv
  clear hc
  have n1 := nodes_le a d l
  have n2 := leaves_le a d l
  by_cases h0 : 0 ≤ p ∧ p < nodesI a d l + leavesI a d l
  · have HU := Lib.hid (placeI_yes (thereB_yes h0))
    obtain ⟨h0, h1⟩ := h0
    have t1 : decide (p < 0) = false := by simp; omega
    have t2 : decide (pagesI a d l ≤ p) = false := by rw [pagesI_eq]; simp; omega
    obtain ⟨x, y, rfl, rfl, hx1, hx2, hy1, hy2⟩ := rightB_ok (right_of_pages h0 h1)
    obtain ⟨P, rfl⟩ := Int.eq_ofNat_of_zero_le h0
    go_enter Try.func64, Try.ntmps64
    go_wp2_with fail
    rw [← HWL.out]
    refine (refPages_any _ _ l _).mono ?_
    rintro e w1 ⟨rfl, b1⟩
    have c0 := HCELL.out 0 _ rfl w1 b1
    have c1 := HCELL.out 1 _ rfl w1 b1
    have c2 := HCELL.out 2 _ rfl w1 b1
    have B1 := Lib.hid (below_both HB.out b1); clear b1
    go_wp2
    clear t1 t2
    go_loop [1, 7, 8] (fun pg lv wd => ∃ (f p' v q : Nat), pg = .int .i64 p' ∧ lv = .int .i64 v ∧ wd = .int .i64 q ∧ p' < f ∧ p' ≤ P ∧ 1 ≤ q ∧ q ≤ 2000 ∧ v + p' ≤ P ∧ plc x f p' q v = plcL x P) (fun pg _ _ => (intOf pg).toNat)
    case atStart => exact ⟨P + 1, P, 0, 1, rfl, rfl, rfl, by omega, Nat.le_refl _, by omega, by omega, by omega, rfl⟩
    case round =>
      obtain ⟨f, p', v, q, rfl, rfl, rfl, hf, hp, hq1, hq2, hv, hpl⟩ := hrel
      have HPL := Lib.hid hpl; clear hpl
      by_cases hlt : q ≤ p'
      · obtain ⟨f, rfl⟩ : ∃ g, f = g + 1 := ⟨f - 1, by omega⟩
        have hm := mul_bounds (a := (q : Int)) (n := (x : Int)) (A := 270) (N := 4) (by omega) (by omega) (by omega) (by omega)
        have HM : Hid (((q * x : Nat) : Int) = (q : Int) * (x : Int)) := Int.natCast_mul _ _
        have HS := Lib.hid (plc_step x f p' q v hlt)
        go_wp2
        go_round
        case rel => exact ⟨f, p' - q, v + 1, q * x, by go_num, by go_num, by rw [HM.out], by omega, by omega, by have := HM.out; have : 1 ≤ q * x := Nat.mul_pos (by omega) (by omega); exact this, by have := HM.out; omega, by omega, by rw [← HS.out]; exact HPL.out⟩
        case measure => simp [intOf]; omega
      · have HS := Lib.hid (plc_stop x f p' q v (by omega))
        go_wp2
        go_ret3
        refine ⟨?_, B1.out⟩
        rw [HU.out, Int.toNat_natCast, Int.toNat_natCast, ← HPL.out, HS.out]
        rfl
  · have HU := Lib.hid (placeI_no (thereB_no h0))
    by_cases h1 : p < 0
    · have t1 : decide (p < 0) = true := by simpa using h1
      clear h0
      go_enter Try.func64, Try.ntmps64
      go_wp2_with fail
      rw [← HWL.out]
      go_ret3
      rw [HU.out]
      exact ⟨rfl, HB.out⟩
    · have t1 : decide (p < 0) = false := by simpa using h1
      have t2 : decide (pagesI a d l ≤ p) = true := by rw [pagesI_eq]; simp; omega
      clear h0
      go_enter Try.func64, Try.ntmps64
      go_wp2_with fail
      rw [← HWL.out]
      refine (refPages_any _ _ l _).mono ?_
      rintro e w1 ⟨rfl, b1⟩
      have B1 := Lib.hid (below_both HB.out b1); clear b1
      go_wp2
      go_ret3
      rw [HU.out]
      exact ⟨rfl, B1.out⟩
/-! ### what the two ways say is the same -/
theorem page_lt {x y p : Nat} {l : Int} (hr : rightB (x : Int) y l = true) (hp : (p : Int) < nodesI (x : Int) y l + leavesI (x : Int) y l) : p < pgN x y := by
  rw [nodesI_of hr rfl rfl, leavesI_of hr rfl rfl] at hp
  unfold pgN
  omega


set_option maxHeartbeats 1000000 in
theorem refParent_any (a d l p : Int) (w : World) :
    Calls Try.prog 48 #[.agg #[.int .i64 a, .int .i64 d, .int .i64 l], .int .i64 p] w (RetI w (parentI a d l p)) := by
  have hb : Below w.heap.size w (w.alloc (.cells #[.int .i64 a, .int .i64 d, .int .i64 l] 40)) := (Below.refl _ _).alloc (Nat.le_refl _) _
  have hc := (Blk.new w 40 #[.int .i64 a, .int .i64 d, .int .i64 l])
  obtain ⟨wl, hwl⟩ : ∃ wl, wl = w.alloc (.cells #[.int .i64 a, .int .i64 d, .int .i64 l] 40) := ⟨_, rfl⟩
  rw [← hwl] at hb hc
  have HB := Lib.hid hb; have HWL := Lib.hid hwl; clear hb hwl
  have HCELL : Hid (∀ (i : Nat) (v : Value), [Value.int .i64 a, .int .i64 d, .int .i64 l][i]? = some v → ∀ wq, Below wl.heap.size wl wq → wq.cell? ⟨w.heap.size, i, none⟩ = some v) := by
    intro i v hv wq hq
    rw [hq.cell (p := ⟨w.heap.size, i, none⟩) hc.lt, hc.cell]
    exact hv
  clear hc
  by_cases h0 : 0 ≤ p ∧ p < nodesI a d l + leavesI a d l
  · skip
    have HU := Lib.hid (placeI_yes (thereB_yes h0))
    obtain ⟨h0, h1⟩ := h0
    have hr := right_of_pages h0 h1
    obtain ⟨x, y, rfl, rfl, hx1, hx2, hy1, hy2⟩ := rightB_ok hr
    obtain ⟨P, rfl⟩ := Int.eq_ofNat_of_zero_le h0
    obtain ⟨q1, q2, q3, q4, q5, q6, q7, q8⟩ := agree_says (agree_all hx1 hx2 hy1 hy2 (page_lt hr h1))
    have HN := Lib.hid (nodesI_of hr rfl rfl)
    have HL := Lib.hid (leavesI_of hr rfl rfl)
    simp only [Int.toNat_natCast] at HU
    generalize (plcL x P).1 = lv at *
    generalize (plcL x P).2 = pl at *
    have t2 : ((x : Int) == 0) = false := by simp; omega
    by_cases hz : P = 0
    · have HE : Hid (parentI (x : Int) y l (P : Int) = -1) := by show _ = _; unfold parentI; rw [if_neg (by omega)]
      have t1 : ((lv : Int) == 0) = true := by have := q4.2 hz; simp; omega
      clear q1 q2 q3 q4 q5 q6 q7 q8 hr hz
      go_enter Try.func48, Try.ntmps48
      go_wp2_with fail
      rw [← HWL.out]
      refine (place_any _ _ l _ _).mono ?_
      rintro e w1 ⟨rfl, b1⟩
      rw [HU.out]
      have c0 := HCELL.out 0 _ rfl w1 b1
      have c1 := HCELL.out 1 _ rfl w1 b1
      have c2 := HCELL.out 2 _ rfl w1 b1
      have B1 := Lib.hid b1; clear b1
      go_wp2
      go_ret
      exact ⟨ret_int HE.out.symm, below_both HB.out B1.out⟩
    · have HE : Hid (parentI (x : Int) y l (P : Int) = ((ndN x (lv - 1) + pl / x : Nat) : Int)) := by
        show _ = _; unfold parentI; rw [if_pos ⟨by omega, h1⟩]
        have h := (q6 (by omega)).1
        have e : (P : Int) - 1 = ((P - 1 : Nat) : Int) := by omega
        rw [e, ← Int.natCast_ediv, h]
      have hlv : lv ≠ 0 := fun h => hz (q4.1 h)
      have t1 : ((lv : Int) == 0) = false := by simp; omega
      have e1 : IntKind.i64.wrap ((lv : Int) - 1) = ((lv - 1 : Nat) : Int) := by rw [IntWalk.i64_in _ (by omega)]; omega
      have e2 : IntKind.i64.wrap ((pl : Int) / (x : Int)) = ((pl / x : Nat) : Int) := by
        rw [← Int.natCast_ediv]
        have hz : pl / x ≤ pl := Nat.div_le_self _ _
        generalize pl / x = z at *
        exact IntWalk.i64_in _ (by omega)
      have hdv : pl / x ≤ pl := Nat.div_le_self _ _
      have HAT := Lib.hid (fun wq => at_any x (lv - 1) (pl / x) y l wq hx2 (by omega) (by omega))
      have hx0 : ¬ ((x : Int) = 0) := by omega
      have hx0' : ¬ (x = 0) := by omega
      clear q1 q2 q3 q4 q5 q6 q7 q8 hr hz
      generalize hlv' : lv - 1 = lv' at *
      generalize hpl' : pl / x = pl' at *
      clear hlv' hpl'
      go_enter Try.func48, Try.ntmps48
      go_wp2_with fail
      rw [← HWL.out]
      refine (place_any _ _ l _ _).mono ?_
      rintro e w1 ⟨rfl, b1⟩
      rw [HU.out]
      have c0 := HCELL.out 0 _ rfl w1 b1
      have c1 := HCELL.out 1 _ rfl w1 b1
      have c2 := HCELL.out 2 _ rfl w1 b1
      have B1 := Lib.hid b1; clear b1
      go_wp2_with fail
      refine wp_region_quiet (C := fun w' => Below (w1).heap.size (w1) w') (by kernel_rfl) (by kernel_rfl) (Below.refl _ _).drew ?_
      simp only
      repeat (first
        | go_big_quiet_skip
        | (go_big_quiet_want
           apply Exists.intro
           refine ⟨fun wq hq => ?_, ?_⟩
           · (have c0 := HCELL.out 0 _ rfl wq (below_both B1.out hq); have c1 := HCELL.out 1 _ rfl wq (below_both B1.out hq); have c2 := HCELL.out 2 _ rfl wq (below_both B1.out hq)
              go_simp
              first
                | done
                | exact rfl
                | (with_reducible exact ⟨rfl, rfl⟩)
                | (go_at_call 63; exact (HAT.out wq).mono fun e w2 ⟨he, hb⟩ => ⟨he, below_both hq hb⟩))
           go_simp
           go_big_quiet_on))
      refine wpQuiet_nil ?_
      intro wq hq
      have HQ := Lib.hid (below_both HB.out (below_both B1.out hq)); clear hq
      go_wp2
      go_ret
      exact ⟨ret_int HE.out.symm, HQ.out⟩
  · have HE : Hid (parentI a d l p = -1) := by show _ = _; unfold parentI; rw [if_neg (by omega)]
    have HU := Lib.hid (placeI_no (thereB_no h0))
    clear h0
    go_enter Try.func48, Try.ntmps48
    go_wp2_with fail
    rw [← HWL.out]
    refine (place_any _ _ l _ _).mono ?_
    rintro e w1 ⟨rfl, b1⟩
    rw [HU.out]
    have c0 := HCELL.out 0 _ rfl w1 b1
    have c1 := HCELL.out 1 _ rfl w1 b1
    have c2 := HCELL.out 2 _ rfl w1 b1
    have B1 := Lib.hid b1; clear b1
    go_wp2
    go_ret
    exact ⟨ret_int HE.out.symm, below_both HB.out B1.out⟩
theorem nodesI_right {a d l : Int} {x y : Nat} (hr : rightB a d l = true) (hx : a = x) (hy : d = y) : nodesI a d l = ndN x y := nodesI_of hr hx hy
set_option maxHeartbeats 1000000 in
theorem refLeaf_any (a d l p : Int) (w : World) :
    Calls Try.prog 47 #[.agg #[.int .i64 a, .int .i64 d, .int .i64 l], .int .i64 p] w (RetI w (leafI a d l p)) := by
  have hb : Below w.heap.size w (w.alloc (.cells #[.int .i64 a, .int .i64 d, .int .i64 l] 40)) := (Below.refl _ _).alloc (Nat.le_refl _) _
  have hc := (Blk.new w 40 #[.int .i64 a, .int .i64 d, .int .i64 l])
  obtain ⟨wl, hwl⟩ : ∃ wl, wl = w.alloc (.cells #[.int .i64 a, .int .i64 d, .int .i64 l] 40) := ⟨_, rfl⟩
  rw [← hwl] at hb hc
  have HB := Lib.hid hb; have HWL := Lib.hid hwl; clear hb hwl
  have HCELL : Hid (∀ (i : Nat) (v : Value), [Value.int .i64 a, .int .i64 d, .int .i64 l][i]? = some v → ∀ wq, Below wl.heap.size wl wq → wq.cell? ⟨w.heap.size, i, none⟩ = some v) := by
    intro i v hv wq hq
    rw [hq.cell (p := ⟨w.heap.size, i, none⟩) hc.lt, hc.cell]
    exact hv
  clear hc
  have n1 := nodes_le a d l
  have n2 := leaves_le a d l
  by_cases hy : 0 ≤ p ∧ p < leavesI a d l
  · have HE : Hid (leafI a d l p = nodesI a d l + p) := by show _ = _; unfold leafI; rw [if_pos hy]
    obtain ⟨h0, h1⟩ := hy
    have hr := right_of_pages h0 (show p < nodesI a d l + leavesI a d l by omega)
    obtain ⟨x, y, rfl, rfl, hx1, hx2, hy1, hy2⟩ := rightB_ok hr
    obtain ⟨P, rfl⟩ := Int.eq_ofNat_of_zero_le h0
    have t1 : decide ((P : Int) < 0) = false := by simp
    have t2 : decide (leavesI (x : Int) y l ≤ (P : Int)) = false := by simpa using h1
    have HN := Lib.hid (nodesI_of hr rfl rfl)
    clear hr
    go_enter Try.func47, Try.ntmps47
    go_wp2_with fail
    rw [← HWL.out]
    refine (refLeaves_any _ _ l _).mono ?_
    rintro e w1 ⟨rfl, b1⟩
    have c0 := HCELL.out 0 _ rfl w1 b1
    have c1 := HCELL.out 1 _ rfl w1 b1
    have c2 := HCELL.out 2 _ rfl w1 b1
    have B1 := Lib.hid (below_both HB.out b1); clear b1
    go_wp2_with fail
    refine (at_any x y P y l _ hx2 (by omega) (by omega)).mono ?_
    rintro e w2 ⟨rfl, b2⟩
    have B2 := Lib.hid (below_both B1.out b2); clear b2
    go_wp2
    go_ret
    exact ⟨ret_int (by rw [HE.out, HN.out]), B2.out⟩
  · have HE : Hid (leafI a d l p = -1) := by show _ = _; unfold leafI; rw [if_neg hy]
    by_cases h0 : p < 0
    · have t1 : decide (p < 0) = true := by simpa using h0
      clear hy
      go_enter Try.func47, Try.ntmps47
      go_wp2_with fail
      rw [← HWL.out]
      go_ret
      exact ⟨ret_int HE.out.symm, HB.out⟩
    · have t1 : decide (p < 0) = false := by simpa using h0
      have t2 : decide (leavesI a d l ≤ p) = true := by simp; omega
      clear hy
      go_enter Try.func47, Try.ntmps47
      go_wp2_with fail
      rw [← HWL.out]
      refine (refLeaves_any a d l _).mono ?_
      rintro e w1 ⟨rfl, b1⟩
      have B1 := Lib.hid (below_both HB.out b1); clear b1
      go_wp2
      go_ret
      exact ⟨ret_int HE.out.symm, B1.out⟩

end Go.Proofs.Ytbmijjodpdbbmaa
