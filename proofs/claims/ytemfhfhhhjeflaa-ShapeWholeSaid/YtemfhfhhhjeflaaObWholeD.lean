import Derived.Test.YtemfhfhhhjeflaaObWholeW
namespace Go.Proofs.Ytemfhfhhhjeflaa
open Go.RowKit
set_option linter.unusedVariables false

/-- What holds of each page but the root. -/
theorem page_whole {a d l : Int} {p : Nat} (hp : 1 ≤ p) (h : (p : Int) < pagesI a d l) :
    childI a d l (parentI a d l p) (whichI a d l p) = (p : Int) ∧ levelI a d l p = levelI a d l (parentI a d l p) + 1 ∧ -1 ≤ levelI a d l (parentI a d l p) ∧ levelI a d l (parentI a d l p) ≤ 1000 := by
  rw [pagesI_eq] at h
  have hr := right_of_pages (show 0 ≤ (p : Int) by omega) h
  obtain ⟨x, y, rfl, rfl, hx1, hx2, hy1, hy2⟩ := rightB_ok hr
  obtain ⟨_, _, _, _, q5, _⟩ := whole_says (whole_all hx1 hx2 hy1 hy2 (page_lt hr h))
  obtain ⟨q5, q6⟩ := q5 (by omega)
  have HN := nodesI_of hr rfl rfl
  have hl := leaves_le (x : Int) y l
  have e : (p : Int) - 1 = ((p - 1 : Nat) : Int) := by omega
  have hP : parentI (x : Int) y l p = (((p - 1) / x : Nat) : Int) := by unfold parentI; rw [if_pos ⟨by omega, h⟩, e]; rfl
  have hW : whichI (x : Int) y l p = (((p - 1) % x : Nat) : Int) := by unfold whichI; rw [if_pos ⟨by omega, h⟩, e]; rfl
  have hm := Nat.mod_lt (p - 1) (show 0 < x by omega)
  have hdm := Nat.div_add_mod (p - 1) x
  have hC := childI_of (x := x) (y := y) (l := l) (n := (p - 1) / x) (k := (p - 1) % x) (by rw [HN]; omega) hm
  rw [hP, hW, hC]
  clear hP hW hC e
  have hle := upL_le x ((p - 1) / x)
  generalize (p - 1) / x = q at *
  generalize (p - 1) % x = r at *
  have u1 : upI (x : Int) y l p = (upL x p).map fun (n : Nat) => (n : Int) := by rw [upI_yes (thereB_yes ⟨by omega, h⟩)]; simp
  have u2 : upI (x : Int) y l (q : Int) = (upL x q).map fun (n : Nat) => (n : Int) := by rw [upI_yes (thereB_yes ⟨by omega, by rw [HN]; omega⟩)]; simp
  have hd : q ≤ 200 := by have := ndN_le hx2 y hy2; omega
  refine ⟨by omega, ?_, ?_, ?_⟩
  all_goals
    unfold levelI
    try rw [u1]
    rw [u2]
    simp only [List.length_map]
    omega

/-- Of a node: what is below its children is below it. -/
def belowTo (x y n j : Nat) : List Int := (List.range j).flatMap fun k => underN x y (x * n + 1 + k)
theorem belowTo_succ (x y n j : Nat) : belowTo x y n (j + 1) = belowTo x y n j ++ underN x y (x * n + 1 + j) := by simp [belowTo, List.range_succ]
theorem underN_len (x y p : Nat) : (underN x y p).length = (dnL x y p).2 + 1 - (dnL x y p).1 := by simp [underN]

set_option maxRecDepth 100000 in
set_option maxHeartbeats 4000000 in
theorem shapeWhole_walk (a d l : Int) (w : World) :
    Calls Try.prog 8 #[.agg #[.int .i64 a, .int .i64 d, .int .i64 l]] w fun e w' => e = .returned (.bool true) ∧ Below w.heap.size w w' := by
  have hb : Below w.heap.size w (w.alloc (.cells #[.int .i64 a, .int .i64 d, .int .i64 l] 56)) := (Below.refl _ _).alloc (Nat.le_refl _) _
  have hc := (Blk.new w 56 #[.int .i64 a, .int .i64 d, .int .i64 l])
  obtain ⟨wl, hwl⟩ : ∃ wl, wl = w.alloc (.cells #[.int .i64 a, .int .i64 d, .int .i64 l] 56) := ⟨_, rfl⟩
  rw [← hwl] at hb hc
  have HB := Lib.hid hb; have HWL := Lib.hid hwl; clear hb hwl
  have HCELL : Hid (∀ (i : Nat) (v : Value), [Value.int .i64 a, .int .i64 d, .int .i64 l][i]? = some v → ∀ wq, Below wl.heap.size wl wq → wq.cell? ⟨w.heap.size, i, none⟩ = some v) := by
    intro i v hv wq hq
    rw [hq.cell (p := ⟨w.heap.size, i, none⟩) hc.lt, hc.cell]
    exact hv
  clear hc
  have n1 := nodes_le a d l
  have n2 := leaves_le a d l
  have hpg : pagesI a d l ≤ 300 := by rw [pagesI_eq]; omega
  go_enter Try.func8, Try.ntmps8
  go_wp2_with fail
  rw [← HWL.out]
  go_loopw [3] (fun pg wr => ∃ k : Nat, 1 ≤ k ∧ k ≤ 301 ∧ pg = .int .i64 k ∧ Below wl.heap.size wl wr) (fun pg _ => 400 - (intOf pg).toNat)
  case atStart => exact ⟨1, Nat.le_refl _, by omega, rfl, Below.refl _ _⟩
  case round =>
    obtain ⟨k, hk1, hk2, rfl, hb⟩ := hrel
    have c0 := HCELL.out 0 _ rfl wr hb
    have c1 := HCELL.out 1 _ rfl wr hb
    have c2 := HCELL.out 2 _ rfl wr hb
    have BR := Lib.hid hb; clear hb
    by_cases hlt : (k : Int) < pagesI a d l
    · obtain ⟨w1', w2', w3', w4'⟩ := page_whole hk1 hlt
      have e1 : (childI a d l (parentI a d l k) (whichI a d l k) != (k : Int)) = false := by rw [w1']; simp
      have e2 : IntKind.i64.wrap (levelI a d l (parentI a d l k) + 1) = levelI a d l (parentI a d l k) + 1 := IntWalk.i64_in _ (by omega)
      have e3 : (levelI a d l k != levelI a d l (parentI a d l k) + 1) = false := by rw [w2']; simp
      have t1 : decide ((k : Int) < pagesI a d l) = true := by simpa using hlt
      clear w1' w2' w3' w4'
      go_wp2_with fail
      refine (refPages_any _ _ l _).mono ?_
      rintro e w1 ⟨rfl, b1⟩
      have B1 := Lib.hid (below_both BR.out b1); clear b1 c0 c1 c2
      go_wp2_with fail
      refine wp_region_quiet (C := fun w' => Below (w1).heap.size (w1) w') (by kernel_rfl) (by kernel_rfl) (Below.refl _ _).drew ?_
      simp only
      repeat (first
        | go_big_quiet_skip
        | (go_big_quiet_want
           apply Exists.intro
           refine ⟨fun wq hq => ?_, ?_⟩
           · (have c0 := HCELL.out 0 _ rfl wq (below_both B1.out hq); have c1 := HCELL.out 1 _ rfl wq (below_both B1.out hq); have c2 := HCELL.out 2 _ rfl wq (below_both B1.out hq)
              go_simp
              first
                | done
                | exact rfl
                | (with_reducible exact ⟨rfl, rfl⟩)
                | (go_at_call 36; exact (child_any _ _ l _ _ wq).mono fun e w2 ⟨he, hb⟩ => ⟨he, below_both hq hb⟩) | (go_at_call 38; exact (parent_any _ _ l _ wq).mono fun e w2 ⟨he, hb⟩ => ⟨he, below_both hq hb⟩) | (go_at_call 40; exact (which_any _ _ l _ wq).mono fun e w2 ⟨he, hb⟩ => ⟨he, below_both hq hb⟩) | (go_at_call 42; exact (level_any _ _ l _ wq).mono fun e w2 ⟨he, hb⟩ => ⟨he, below_both hq hb⟩))
           go_simp
           go_big_quiet_on))
      refine wpQuiet_nil ?_
      intro wq hq
      have HQ := Lib.hid (below_both B1.out hq); clear hq
      clear e1 e2 e3
      go_wp2
      go_roundw
      case rel => exact ⟨k + 1, by omega, by omega, by go_num, HQ.out⟩
      case measure => simp [intOf]; omega
    · have t1 : decide ((k : Int) < pagesI a d l) = false := by simpa using hlt
      clear hlt
      go_wp2_with fail
      refine (refPages_any _ _ l _).mono ?_
      rintro e w1 ⟨rfl, b1⟩
      have B1 := Lib.hid (below_both BR.out b1); clear b1 c0 c1 c2
      go_wp2_with fail
      go_loopw [4] (fun nd wr => ∃ k : Nat, k ≤ 301 ∧ nd = .int .i64 k ∧ Below wl.heap.size wl wr) (fun nd _ => 400 - (intOf nd).toNat)
      case atStart => exact ⟨0, by omega, rfl, B1.out⟩
      case round =>
        clear t1 B1 BR hk1 hk2
        obtain ⟨n, hn2, rfl, hb⟩ := hrel
        have c0 := HCELL.out 0 _ rfl wr hb
        have c1 := HCELL.out 1 _ rfl wr hb
        have c2 := HCELL.out 2 _ rfl wr hb
        have BR := Lib.hid hb; clear hb
        by_cases hlt : (n : Int) < nodesI a d l
        · have t1 : decide ((n : Int) < nodesI a d l) = true := by simpa using hlt
          have hr := right_of_pages (show 0 ≤ (n : Int) by omega) (show (n : Int) < nodesI a d l + leavesI a d l by omega)
          obtain ⟨x, y, rfl, rfl, hx1, hx2, hy1, hy2⟩ := rightB_ok hr
          have HN := Lib.hid (nodesI_of hr rfl rfl)
          have HL := Lib.hid (leavesI_of hr rfl rfl)
          have hnn : n < ndN x y := by rw [HN.out] at hlt; omega
          obtain ⟨_, _, _, _, _, q6⟩ := whole_says (whole_all hx1 hx2 hy1 hy2 (page_lt hr (show (n : Int) < nodesI (x : Int) y l + leavesI (x : Int) y l by omega)))
          obtain ⟨q6, q7⟩ := q6 hnn
          have HU : Hid (underI (x : Int) y l n = belowTo x y n x) := by
            show _ = _
            rw [underI_yes (thereB_yes ⟨by omega, by omega⟩)]
            simp only [Int.toNat_natCast]
            exact q7.symm
          have HCH : Hid (∀ j, j < x → childI (x : Int) y l n j = ((x * n + 1 + j : Nat) : Int) ∧ underI (x : Int) y l ((x * n + 1 + j : Nat) : Int) = underN x y (x * n + 1 + j) ∧ (underN x y (x * n + 1 + j)).length ≤ 256) := by
            intro j hj
            have hpn : (((x * n + 1 + j : Nat)) : Int) < nodesI (x : Int) y l + leavesI (x : Int) y l := by
              rw [HN.out, HL.out]
              unfold pgN at q6
              omega
            refine ⟨childI_of hlt hj, ?_, ?_⟩
            · rw [underI_yes (thereB_yes ⟨by omega, hpn⟩)]
              simp only [Int.toNat_natCast]
            · obtain ⟨_, _, _, r4, _, _⟩ := whole_says (whole_all hx1 hx2 hy1 hy2 (page_lt hr hpn))
              have := pgN_le hx2 hy2
              rw [underN_len]; omega
          have HSL : Hid (slotI (x : Int) y l n = -1) := by show _ = _; unfold slotI; rw [if_neg (by omega)]
          clear q6 q7 hr
          go_wp2_with fail
          refine (refNodes_any _ _ l _).mono ?_
          rintro e w2 ⟨rfl, b2⟩
          have B2 := Lib.hid (below_both BR.out b2); clear b2 c0 c1 c2
          go_wp2_with fail
          go_loopw [5, 6] (fun v i wr => ∃ j : Nat, j ≤ x ∧ i = .int .i64 j ∧ (belowTo x y n j).length ≤ 256 * j ∧ Own wl wr 3 1 v (belowTo x y n j).length ((belowTo x y n j).map i64c)) (fun _ i _ => x - (intOf i).toNat)
          case atStart => exact ⟨0, Nat.zero_le _, rfl, by simp [belowTo], Own.nil' B2.out _ _⟩
          case round =>
            obtain ⟨j, hj, rfl, hjl, hown⟩ := hrel
            have c0 := HCELL.out 0 _ rfl _ hown.below
            have c1 := HCELL.out 1 _ rfl _ hown.below
            have c2 := HCELL.out 2 _ rfl _ hown.below
            by_cases hlt2 : j < x
            · obtain ⟨hc1, hc2, hc3⟩ := HCH.out j hlt2
              have HC1 := Lib.hid hc1; have HC2 := Lib.hid hc2; clear hc1 hc2
              have HTO := Lib.hid (belowTo_succ x y n j)
              generalize x * n + 1 + j = cn at *
              have HO := Lib.hid hown.drew; clear hown
              go_wp2_with fail
              go_region_law (first
                | (refine step_cat rfl (.tmp 47) (.tmp 53) 51 rfl tNums rfl (by exact (HO.out.mono b3).mono o4.below) rfl s4 (one_nums _) (by omega) ?_; intro v5 w5 own5)
                | (go_simp; go_at_call 36; refine (child_any _ _ l _ _ _).mono ?_; rintro e w3 ⟨rfl, b3⟩; rw [HC1.out]; have d0 := HCELL.out 0 _ rfl w3 (below_both HO.out.below b3); have d1 := HCELL.out 1 _ rfl w3 (below_both HO.out.below b3); have d2 := HCELL.out 2 _ rfl w3 (below_both HO.out.below b3))
                | (go_simp; go_at_call 51; refine (under_any _ _ l _ _).mono ?_; rintro e w4 ⟨v4, rfl, o4⟩; rw [HC2.out] at o4; obtain ⟨A4, cc4, rfl, s4⟩ := o4.slice))
              all_goals
                go_wp2
                go_roundw
                case rel =>
                  refine ⟨j + 1, by omega, by go_num, by rw [HTO.out, List.length_append]; omega, ?_⟩
                  rw [HTO.out, List.length_append, List.map_append]
                  exact own5
                case measure => simp [intOf]; omega
            · obtain rfl : x = j := by omega
              have O := Lib.hid hown; clear hown
              go_wp2_with fail
              refine (under_any _ _ l _ _).mono ?_
              rintro e w4 ⟨v4, rfl, o4⟩
              rw [HU.out] at o4
              obtain ⟨A4, cc4, rfl, s4⟩ := o4.slice
              obtain ⟨A5, cc5, hv5, s5⟩ := O.out.slice
              have B4 := Lib.hid (below_both O.out.below o4.below)
              have S5 := Lib.hid (s5.mono o4.below)
              have S4 := Lib.hid s4
              clear s4 s5 o4 c0 c1 c2
              subst hv5
              go_wp2_with fail
              refine (ints_b _ _ _ _ _ _ _ _ _ S5.out S4.out).mono ?_
              rintro e w6 ⟨rfl, b6⟩
              have e1 : (belowTo x y n x == belowTo x y n x) = true := by simp
              rw [e1]
              have B6 := Lib.hid (below_both B4.out b6)
              clear e1 b6
              have c0 := HCELL.out 0 _ rfl w6 B6.out
              have c1 := HCELL.out 1 _ rfl w6 B6.out
              have c2 := HCELL.out 2 _ rfl w6 B6.out
              go_wp2_with fail
              refine (slot_any _ _ l _ _).mono ?_
              rintro e w7 ⟨rfl, b7⟩
              rw [HSL.out]
              have B7 := Lib.hid (below_both B6.out b7); clear b7
              go_wp2
              go_roundw
              case rel => exact ⟨n + 1, by omega, by go_num, B7.out⟩
              case measure => simp [intOf]; omega
        · have t1 : decide ((n : Int) < nodesI a d l) = false := by simpa using hlt
          have HP : Hid (parentI a d l 0 = -1) := by show _ = _; unfold parentI; rw [if_neg (by omega)]
          clear hlt
          go_wp2_with fail
          refine (refNodes_any _ _ l _).mono ?_
          rintro e w2 ⟨rfl, b2⟩
          have B2 := Lib.hid (below_both BR.out b2); clear b2 c0 c1 c2
          have c0 := HCELL.out 0 _ rfl w2 B2.out
          have c1 := HCELL.out 1 _ rfl w2 B2.out
          have c2 := HCELL.out 2 _ rfl w2 B2.out
          go_wp2_with fail
          refine (parent_any _ _ l _ _).mono ?_
          rintro e w3 ⟨rfl, b3⟩
          rw [HP.out]
          have B3 := Lib.hid (below_both B2.out b3); clear b3
          go_wp2_with fail
          refine (alive27_any _).mono ?_
          rintro e w4 ⟨rfl, b4⟩
          have B4 := Lib.hid (below_both HB.out (below_both B3.out b4)); clear b4
          go_wp2
          go_ret
          exact ⟨rfl, B4.out⟩
end Go.Proofs.Ytemfhfhhhjeflaa
