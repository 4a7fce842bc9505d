import Derived.Test.YtbmijjodpdbbmaaObShapeD
import Derived.Test.YtbmijjodpdbbmaaObWholeL
import Derived.Deep.RegionLaw
namespace Go.Proofs.Ytbmijjodpdbbmaa
open Go.RowKit
set_option linter.unusedVariables false

theorem childI_of {x y : Nat} {l : Int} {n k : Nat} (hn : (n : Int) < nodesI (x : Int) y l) (hk : k < x) : childI (x : Int) y l n k = ((x * n + 1 + k : Nat) : Int) := by
  unfold childI
  rw [if_pos ⟨by omega, hn, by omega, by omega⟩]
  simp

set_option maxRecDepth 100000 in
set_option maxHeartbeats 2000000 in
theorem under_any (a d l p : Int) (w : World) :
    Calls Try.prog 28 #[.agg #[.int .i64 a, .int .i64 d, .int .i64 l], .int .i64 p] w (RetIs w (underI a d l p)) := by
  have hb : Below w.heap.size w (w.alloc (.cells #[.int .i64 a, .int .i64 d, .int .i64 l] 40)) := (Below.refl _ _).alloc (Nat.le_refl _) _
  have hc := (Blk.new w 40 #[.int .i64 a, .int .i64 d, .int .i64 l])
  obtain ⟨wl, hwl⟩ : ∃ wl, wl = w.alloc (.cells #[.int .i64 a, .int .i64 d, .int .i64 l] 40) := ⟨_, rfl⟩
  rw [← hwl] at hb hc
  have HB := Lib.hid hb; have HWL := Lib.hid hwl; clear hb hwl
  have HCELL : Hid (∀ (i : Nat) (v : Value), [Value.int .i64 a, .int .i64 d, .int .i64 l][i]? = some v → ∀ wq, Below wl.heap.size wl wq → wq.cell? ⟨w.heap.size, i, none⟩ = some v) := by
    intro i v hv wq hq
    rw [hq.cell (p := ⟨w.heap.size, i, none⟩) hc.lt, hc.cell]
    exact hv
  clear hc
  have n1 := nodes_le a d l
  have n2 := leaves_le a d l
  by_cases h0 : 0 ≤ p ∧ p < nodesI a d l + leavesI a d l
  · have ht := thereB_yes h0
    have HU := Lib.hid (underI_yes ht)
    obtain ⟨h0, h1⟩ := h0
    have hr := right_of_pages h0 h1
    obtain ⟨x, y, rfl, rfl, hx1, hx2, hy1, hy2⟩ := rightB_ok hr
    obtain ⟨P, rfl⟩ := Int.eq_ofNat_of_zero_le h0
    obtain ⟨q1, q2, q3, q4, q5, q6⟩ := whole_says (whole_all hx1 hx2 hy1 hy2 (page_lt hr h1))
    simp only [Int.toNat_natCast] at HU
    have HN := Lib.hid (nodesI_of hr rfl rfl)
    have HL := Lib.hid (leavesI_of hr rfl rfl)
    have hpg := pgN_le hx2 hy2
    have hpl := page_lt hr h1
    clear q5 q6
    have Q1 := Lib.hid q1; clear q1
    have hnd : ndN x y ≤ 200 := by have := ndN_le hx2 y hy2; omega
    have HPG : Hid (pgN x y = ndN x y + x ^ y) := rfl
    have HTO := Lib.hid (underTo_succ x y P)
    have HTA := Lib.hid (underTo_all x y P)
    generalize hdn : dnL x y P = D at *
    obtain ⟨F, L⟩ := D
    simp only at q2 q3 q4 HTO HTA
    go_enter Try.func28, Try.ntmps28
    go_wp2_with fail
    rw [← HWL.out]
    refine (there_any _ _ l _ _).mono ?_
    rintro e w1 ⟨rfl, b1⟩
    rw [ht]
    have B1 := Lib.hid b1; clear b1 ht hr hdn
    go_wp2
    go_loopw [5, 6] (fun fi la wr => ∃ (k f m : Nat), fi = .int .i64 f ∧ la = .int .i64 m ∧ f ≤ 1000 ∧ m ≤ 1000 ∧ dn x (ndN x y) k f m = some (F, L) ∧ Below wl.heap.size wl wr) (fun fi _ _ => 2000 - (intOf fi).toNat)
    case atStart => exact ⟨4, P, P, rfl, rfl, by omega, by omega, Q1.out, B1.out⟩
    case round =>
      obtain ⟨k, f, m, rfl, rfl, hf, hm, hdn, hb⟩ := hrel
      have HD := Lib.hid hdn; clear hdn
      have c0 := HCELL.out 0 _ rfl wr hb
      have c1 := HCELL.out 1 _ rfl wr hb
      have c2 := HCELL.out 2 _ rfl wr hb
      have BR := Lib.hid hb; clear hb
      by_cases hlt : f < ndN x y
      · have hk : ∃ k', k = k' + 1 ∧ m < ndN x y ∧ dn x (ndN x y) k' (x * f + 1) (x * m + x) = some (F, L) := by
          have h := HD.out
          cases k with
          | zero => simp [dn, hlt] at h
          | succ k =>
            rw [dn, if_pos hlt] at h
            by_cases hm2 : m < ndN x y
            · rw [if_pos hm2] at h; exact ⟨k, rfl, hm2, h⟩
            · rw [if_neg hm2] at h; cases h
        obtain ⟨k', rfl, hm2, hdn⟩ := hk
        have HD2 := Lib.hid hdn; clear hdn
        have t1 : decide ((f : Int) < nodesI (x : Int) y l) = true := by rw [HN.out]; simp; omega
        have HC1 := Lib.hid (childI_of (x := x) (y := y) (l := l) (n := f) (k := 0) (by rw [HN.out]; omega) (by omega))
        have HC2 := Lib.hid (childI_of (x := x) (y := y) (l := l) (n := m) (k := x - 1) (by rw [HN.out]; omega) (by omega))
        have e1 : IntKind.i64.wrap ((x : Int) - 1) = ((x - 1 : Nat) : Int) := by rw [IntWalk.i64_in _ (by omega)]; omega
        have b1 : x * f ≤ 4 * 200 := Nat.mul_le_mul hx2 (by omega)
        have b2 : x * m ≤ 4 * 200 := Nat.mul_le_mul hx2 (by omega)
        have b3 : 2 * f ≤ x * f := Nat.mul_le_mul_right f hx1
        have E2 : Hid (x * m + 1 + (x - 1) = x * m + x) := by show _ = _; omega
        have E1 : Hid (x * f + 1 + 0 = x * f + 1) := rfl
        rw [E1.out] at HC1
        rw [E2.out] at HC2
        go_wp2_with fail
        refine (nodes_any _ _ l _).mono ?_
        rintro e w2 ⟨rfl, b2'⟩
        have B2 := Lib.hid (below_both BR.out b2'); clear b2' c0 c1 c2
        go_wp2_with fail
        refine wp_region_quiet (C := fun w' => Below (w2).heap.size (w2) w') (by kernel_rfl) (by kernel_rfl) (Below.refl _ _).drew ?_
        simp only
        repeat (first
          | go_big_quiet_skip
          | (go_big_quiet_want
             apply Exists.intro
             refine ⟨fun wq hq => ?_, ?_⟩
             · (have c0 := HCELL.out 0 _ rfl wq (below_both B2.out hq); have c1 := HCELL.out 1 _ rfl wq (below_both B2.out hq); have c2 := HCELL.out 2 _ rfl wq (below_both B2.out hq)
                go_simp
                first
                  | done
                  | exact rfl
                  | (with_reducible exact ⟨rfl, rfl⟩)
                  | (go_at_call 53; exact (child_any _ _ l _ _ wq).mono fun e w2 ⟨he, hb⟩ => ⟨he, below_both hq hb⟩))
             go_simp
             go_big_quiet_on))
        refine wpQuiet_nil ?_
        intro wq hq
        have HQ := Lib.hid (below_both B2.out hq); clear hq
        have hc1 := HC1.out; simp only [Int.ofNat_zero] at hc1
        rw [hc1, HC2.out]
        clear hc1
        go_wp2
        go_roundw
        case rel => exact ⟨k', x * f + 1, x * m + x, rfl, rfl, by omega, by omega, HD2.out, HQ.out⟩
        case measure => simp [intOf]; omega
      · have hFL : (f, m) = (F, L) := by
          have h := HD.out
          cases k with
          | zero => rw [dn, if_neg hlt] at h; exact Option.some.inj h
          | succ k => rw [dn, if_neg hlt] at h; exact Option.some.inj h
        obtain ⟨rfl, rfl⟩ := Prod.mk.inj hFL
        clear hFL
        have t1 : decide ((f : Int) < nodesI (x : Int) y l) = false := by rw [HN.out]; simp; omega
        go_wp2_with fail
        refine (nodes_any _ _ l _).mono ?_
        rintro e w2 ⟨rfl, b2'⟩
        have B2 := Lib.hid (below_both BR.out b2'); clear b2' c0 c1 c2
        go_wp2_with fail
        go_loopw [4, 7] (fun v i wr => ∃ j fj : Nat, f + j = fj ∧ j ≤ m + 1 - f ∧ i = .int .i64 (fj : Int) ∧ Own wl wr 3 1 v j ((underTo x y P j).map i64c)) (fun _ i _ => m + 1 - (intOf i).toNat)
        case atStart => exact ⟨0, f, rfl, Nat.zero_le _, rfl, Own.nil' B2.out _ _⟩
        case round =>
          obtain ⟨j, fj, hfj, hj, rfl, hown⟩ := hrel
          have c0 := HCELL.out 0 _ rfl _ hown.below
          have c1 := HCELL.out 1 _ rfl _ hown.below
          have c2 := HCELL.out 2 _ rfl _ hown.below
          by_cases hlt2 : j < m + 1 - f
          · have HS : Hid (slotI (x : Int) y l (fj : Int) = ((f - ndN x y + j : Nat) : Int)) := by
              show _ = _
              unfold slotI
              have := HPG.out
              rw [HN.out, HL.out, if_pos ⟨by omega, by omega, by omega⟩]
              omega
            have hle : fj ≤ m := by omega
            have HT := Lib.hid (HTO.out j)
            have HFJ := Lib.hid hfj; clear hfj
            go_wp2_with fail
            refine (slot_any _ _ l _ _).mono ?_
            rintro e w3 ⟨rfl, b3⟩
            rw [HS.out]
            have O3 := Lib.hid (hown.mono b3); clear b3
            go_wp2_with (at_builtin; refine wpList_push rfl _ _ 31 rfl tNums rfl O3.out #[_] rfl rfl (one_int _ _) (by omega) ?_; intro v1 w4 own1)
            go_roundw
            case rel => exact ⟨j + 1, fj + 1, by have := HFJ.out; omega, by omega, by go_num, by rw [HT.out]; exact own1⟩
            case measure => have := HFJ.out; simp [intOf]; omega
          · have hje : j = m + 1 - f := by omega
            have hle : ¬ fj ≤ m := by omega
            have hfin : RetIs w (underI (x : Int) y l (P : Int)) (.returned u4) wr := by
              refine ⟨_, rfl, ?_⟩
              rw [HU.out, ← HTA.out, underTo_len]
              rw [hje] at hown
              exact hown.base HB.out
            have HF := Lib.hid hfin; clear hfin hje hfj
            go_wp2
            go_ret
            exact HF.out
  · have ht := thereB_no h0
    have HU := Lib.hid (underI_no ht)
    clear h0
    go_enter Try.func28, Try.ntmps28
    go_wp2_with fail
    rw [← HWL.out]
    refine (there_any _ _ l _ _).mono ?_
    rintro e w1 ⟨rfl, b1⟩
    rw [ht]
    have B1 := Lib.hid (below_both HB.out b1); clear b1 ht
    go_wp2
    go_ret
    exact ⟨_, rfl, by rw [HU.out]; exact Own.nil' B1.out _ _⟩
end Go.Proofs.Ytbmijjodpdbbmaa
