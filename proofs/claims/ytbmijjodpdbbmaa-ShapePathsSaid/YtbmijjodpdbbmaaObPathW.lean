import Derived.Test.YtbmijjodpdbbmaaObPathL
import Derived.Test.YtbmijjodpdbbmaaObMoreW
namespace Go.Proofs.Ytbmijjodpdbbmaa
open Go.RowKit Go.Maps
set_option linter.unusedVariables false

def castL (L : List Nat) : List Int := L.map fun (q : Nat) => (q : Int)
theorem path_step (x p : Nat) (hp : 0 < p) (l2 : List Int) : (castL (upL x p).tail).reverse ++ l2 = (castL (upL x ((p - 1) / x)).tail).reverse ++ ((((p - 1) / x : Nat) : Int) :: l2) := by
  rw [upL_pos x p hp]
  have h : upL x ((p - 1) / x) = ((p - 1) / x) :: (upL x ((p - 1) / x)).tail := by
    unfold upL upF; rfl
  rw [List.tail_cons]
  conv => lhs; rw [h]
  simp [castL]

set_option maxHeartbeats 1000000 in
theorem refPath_any (a d l s : Int) (w : World) :
    Calls Try.prog 25 #[.agg #[.int .i64 a, .int .i64 d, .int .i64 l], .int .i64 s] w (RetIs w (pathI a d l s)) := by
  have hb : Below w.heap.size w (w.alloc (.cells #[.int .i64 a, .int .i64 d, .int .i64 l] 40)) := (Below.refl _ _).alloc (Nat.le_refl _) _
  have hc := (Blk.new w 40 #[.int .i64 a, .int .i64 d, .int .i64 l])
  obtain ⟨wl, hwl⟩ : ∃ wl, wl = w.alloc (.cells #[.int .i64 a, .int .i64 d, .int .i64 l] 40) := ⟨_, rfl⟩
  rw [← hwl] at hb hc
  have HB := Lib.hid hb; have HWL := Lib.hid hwl; clear hb hwl
  have HCELL : Hid (∀ (i : Nat) (v : Value), [Value.int .i64 a, .int .i64 d, .int .i64 l][i]? = some v → ∀ wq, Below wl.heap.size wl wq → wq.cell? ⟨w.heap.size, i, none⟩ = some v) := by
    intro i v hv wq hq
    rw [hq.cell (p := ⟨w.heap.size, i, none⟩) hc.lt, hc.cell]
    exact hv
  clear hc
  by_cases hs : 0 ≤ s ∧ s < leavesI a d l
  · obtain ⟨x, y, n, rfl, rfl, rfl, hx1, hx2, hy1, hy2, hr, hn, e1, e2, e3, e4⟩ := way_of hs.1 hs.2
    have hpg := pgN_le hx2 hy2
    have hnd : ndN x y + n < pgN x y := by unfold pgN; omega
    have hn1 := nodesI_of hr rfl rfl
    have hn2 := leavesI_of hr rfl rfl
    have HF0 : Hid ((castL (upL x (ndN x y + n)).tail).reverse ++ [] = pathI (x : Int) y l n) := by
      rw [e3, e4, List.tail_cons, List.append_nil]; exact rfl
    have HPL : Hid ((pathI (x : Int) y l n).length ≤ 300) := by
      show _ ≤ 300
      rw [e3, List.length_reverse, List.length_map]
      have h1 := upL_le x ((ndN x y + n - 1) / x)
      have h2 : (ndN x y + n - 1) / x ≤ ndN x y + n - 1 := Nat.div_le_self _ _
      omega
    have HPA : Hid (∀ p : Nat, 0 < p → p ≤ ndN x y + n → parentI (x : Int) y l p = (((p - 1) / x : Nat) : Int)) := by
      intro p h1 h2
      unfold parentI
      rw [if_pos ⟨by omega, by rw [hn1, hn2]; omega⟩]
      have : ((p : Nat) : Int) - 1 = ((p - 1 : Nat) : Int) := by omega
      rw [this]; exact (Int.natCast_ediv _ _).symm
    generalize pathI (x : Int) y l n = F at *
    have HE1 := Lib.hid e1
    have hnp : 0 ≤ ndN x y + n := by omega
    clear e1 e2 e3 e4 hn1 hn2 hr hs
    go_enter Try.func25, Try.ntmps25
    go_wp2_with fail
    rw [← HWL.out]
    refine (refLeaf_any _ _ l _ _).mono ?_
    rintro e w1 ⟨rfl, b1⟩
    rw [HE1.out]
    have B1 := Lib.hid b1; clear b1 HE1
    generalize ndN x y + n = P at *
    go_wp2
    go_loopw [5, 6] (fun v pg wr => ∃ (p : Nat) (l2 : List Int), pg = .int .i64 p ∧ p ≤ P ∧ Own wl wr 3 1 v l2.length (l2.map i64c) ∧ (castL (upL x p).tail).reverse ++ l2 = F) (fun _ pg _ => (intOf pg).toNat)
    case atStart => exact ⟨P, [], rfl, Nat.le_refl _, Own.nil' B1.out _ _, HF0.out⟩
    case round =>
      obtain ⟨p, l2, rfl, hp, hown, hF⟩ := hrel
      have hl2 : l2.length ≤ 300 := by
        have h1 := congrArg List.length hF
        rw [List.length_append] at h1
        have := HPL.out
        omega
      have HF := Lib.hid hF; clear hF
      have HO := Lib.hid hown
      have hbw := hown.below
      have c0 := HCELL.out 0 _ rfl wr hbw
      have c1 := HCELL.out 1 _ rfl wr hbw
      have c2 := HCELL.out 2 _ rfl wr hbw
      by_cases hlt : 0 < p
      · have HPP := Lib.hid (HPA.out p hlt hp)
        have HST := Lib.hid (path_step x p hlt l2)
        have hq : (p - 1) / x ≤ p - 1 := Nat.div_le_self _ _
        generalize (p - 1) / x = q at *
        obtain ⟨A2, c2', rfl, s2⟩ := hown.slice
        have HS2 := Lib.hid s2
        have m2 := Sl.max s2
        clear s2 hown
        go_wp2_with fail
        refine (refParent_any _ _ l _ _).mono ?_
        rintro e w2 ⟨rfl, b2⟩
        rw [HPP.out]
        have B2 := Lib.hid b2; clear b2
        go_wp2_with (at_builtin; refine wpList_cat rfl (.tmp 18) (.tmp 19) 31 rfl tNums rfl (by exact (Blk.new _ 3 #[_]).own (Nat.le_refl _) ((Below.refl _ _).alloc (Nat.le_refl _) _) rfl (by decide)) rfl (by exact (HS2.out.mono B2.out).mono ((Below.refl _ _).alloc (Nat.le_refl _) _)) (one_nums _) (by omega) ?_; intro v3 w3 o3)
        have HO3 : Hid (Own wl w3 3 1 v3 ((q : Int) :: l2).length (((q : Int) :: l2).map i64c)) := by
          have h := o3.base (below_both hbw B2.out)
          rw [List.length_cons, Nat.add_comm]
          exact h
        clear o3
        go_roundw
        case rel => exact ⟨q, (q : Int) :: l2, rfl, by omega, HO3.out, by rw [← HST.out]; exact HF.out⟩
        case measure => simp [intOf]; omega
      · obtain rfl : p = 0 := by omega
        have HE : Hid (l2 = F) := by have := HF.out; rw [upL_zero] at this; exact this
        go_wp2
        go_ret
        exact ⟨_, rfl, by rw [← HE.out]; exact HO.out.base HB.out⟩
  · have e0 : leafI a d l s = -1 := by unfold leafI; rw [if_neg hs]
    have HE : Hid (pathI a d l s = []) := by show _ = _; unfold pathI; rw [if_pos e0]
    go_enter Try.func25, Try.ntmps25
    go_wp2_with fail
    rw [← HWL.out]
    refine (refLeaf_any _ _ l _ _).mono ?_
    rintro e w1 ⟨rfl, b1⟩
    rw [e0]
    have B1 := Lib.hid (below_both HB.out b1); clear b1 e0
    go_wp2
    go_ret
    exact ⟨_, rfl, by rw [HE.out]; exact Own.nil' B1.out _ _⟩

/-! ### the slots below, one after the other -/
def undTo (a d l p : Int) (k : Nat) : List Int := ((List.range k).filter fun (s : Nat) => (leafI a d l s == p) || (pathI a d l s).contains p).map fun (s : Nat) => (s : Int)
theorem undTo_snoc (a d l p : Int) (k : Nat) : undTo a d l p (k + 1) = undTo a d l p k ++ if ((leafI a d l k == p) || (pathI a d l k).contains p) then [(k : Int)] else [] := by
  unfold undTo
  rw [List.range_succ, List.filter_append, List.map_append]
  congr 1
  cases h : ((leafI a d l k == p) || (pathI a d l k).contains p)
  · simp only [List.filter_cons, h, List.filter_nil]; rfl
  · simp only [List.filter_cons, h, List.filter_nil]; rfl
theorem undTo_len (a d l p : Int) (k : Nat) : (undTo a d l p k).length ≤ k := by
  unfold undTo
  rw [List.length_map]
  exact Nat.le_trans (List.length_filter_le _ _) (by simp)

set_option maxHeartbeats 2000000 in
theorem refUnder_any (a d l p : Int) (w : World) :
    Calls Try.prog 29 #[.agg #[.int .i64 a, .int .i64 d, .int .i64 l], .int .i64 p] w (RetIs w (underI a d l p)) := by
  have hb : Below w.heap.size w (w.alloc (.cells #[.int .i64 a, .int .i64 d, .int .i64 l] 40)) := (Below.refl _ _).alloc (Nat.le_refl _) _
  have hc := (Blk.new w 40 #[.int .i64 a, .int .i64 d, .int .i64 l])
  obtain ⟨wl, hwl⟩ : ∃ wl, wl = w.alloc (.cells #[.int .i64 a, .int .i64 d, .int .i64 l] 40) := ⟨_, rfl⟩
  rw [← hwl] at hb hc
  have HB := Lib.hid hb; have HWL := Lib.hid hwl; clear hb hwl
  have HCELL : Hid (∀ (i : Nat) (v : Value), [Value.int .i64 a, .int .i64 d, .int .i64 l][i]? = some v → ∀ wq, Below wl.heap.size wl wq → wq.cell? ⟨w.heap.size, i, none⟩ = some v) := by
    intro i v hv wq hq
    rw [hq.cell (p := ⟨w.heap.size, i, none⟩) hc.lt, hc.cell]
    exact hv
  clear hc
  have n2 := leaves_le a d l
  obtain ⟨N, hN⟩ := Int.eq_ofNat_of_zero_le n2.1
  have hN64 : N ≤ 64 := by omega
  have HE : Hid (undTo a d l p N = underI a d l p) := by rw [← undI_eq]; unfold undI undTo; rw [hN]; exact rfl
  have HN := Lib.hid hN; clear hN n2
  go_enter Try.func29, Try.ntmps29
  go_wp2_with fail
  rw [← HWL.out]
  go_loopw [5, 6] (fun v i wr => ∃ k : Nat, k ≤ N ∧ i = .int .i64 k ∧ Own wl wr 3 1 v (undTo a d l p k).length ((undTo a d l p k).map i64c)) (fun _ i _ => N - (intOf i).toNat)
  case atStart => exact ⟨0, Nat.zero_le _, rfl, Own.nil _ _ _⟩
  case round =>
    obtain ⟨k, hk, rfl, hown⟩ := hrel
    have hl := undTo_len a d l p k
    have HSN := Lib.hid (undTo_snoc a d l p k)
    generalize hU : undTo a d l p k = U at *
    have HUE := Lib.hid hU; clear hU
    have HO := Lib.hid hown
    have hbw := hown.below
    clear hown
    have c0 := HCELL.out 0 _ rfl wr hbw
    have c1 := HCELL.out 1 _ rfl wr hbw
    have c2 := HCELL.out 2 _ rfl wr hbw
    go_wp2_with fail
    refine (refLeaves_any _ _ l _).mono ?_
    rintro e w1 ⟨rfl, b1⟩
    rw [HN.out]
    have hbw1 := below_both hbw b1
    have HO1 := Lib.hid (HO.out.mono b1)
    clear b1 c0 c1 c2
    have c0 := HCELL.out 0 _ rfl w1 hbw1
    have c1 := HCELL.out 1 _ rfl w1 hbw1
    have c2 := HCELL.out 2 _ rfl w1 hbw1
    have HBW1 := Lib.hid hbw1
    by_cases hlt : k < N
    · cases hlf : (leafI a d l k == p)
      · cases hct : (pathI a d l k).contains p
        · have HU : Hid (undTo a d l p (k + 1) = U) := by show _ = _; rw [HSN.out, hlf, hct]; simp
          go_wp2_with (first
            | (go_at_call 47; refine (refLeaf_any a d l k _).mono ?_; rintro e w2 ⟨rfl, b2⟩; have B2 := Lib.hid (below_both HBW1.out b2); have O2 := Lib.hid (HO1.out.mono b2); have d0 := HCELL.out 0 _ rfl w2 B2.out; have d1 := HCELL.out 1 _ rfl w2 B2.out; have d2 := HCELL.out 2 _ rfl w2 B2.out; clear b2)
            | (go_at_call 25; refine (refPath_any a d l k _).mono ?_; rintro e w3 ⟨v3, rfl, o3⟩; obtain ⟨A3, c3, rfl, s3⟩ := o3.slice; have O3 := Lib.hid (O2.out.mono o3.below); clear o3)
            | (go_at_call 20; refine (refHas_any A3 _ c3 (pathI a d l k) p _ s3).mono ?_; rintro e w4 ⟨rfl, rfl⟩; rw [hct]))
          go_roundw
          case rel => exact ⟨k + 1, by omega, by go_num, by rw [HU.out]; exact O3.out⟩
          case measure => simp [intOf]; omega
        · have HU : Hid ((undTo a d l p (k + 1)).length = U.length + 1 ∧ (undTo a d l p (k + 1)).map i64c = U.map i64c ++ [.int .i64 k]) := by rw [HSN.out, hlf, hct]; simp; exact rfl
          go_wp2_with (first
            | (go_at_call 47; refine (refLeaf_any a d l k _).mono ?_; rintro e w2 ⟨rfl, b2⟩; have B2 := Lib.hid (below_both HBW1.out b2); have O2 := Lib.hid (HO1.out.mono b2); have d0 := HCELL.out 0 _ rfl w2 B2.out; have d1 := HCELL.out 1 _ rfl w2 B2.out; have d2 := HCELL.out 2 _ rfl w2 B2.out; clear b2)
            | (go_at_call 25; refine (refPath_any a d l k _).mono ?_; rintro e w3 ⟨v3, rfl, o3⟩; obtain ⟨A3, c3, rfl, s3⟩ := o3.slice; have O3 := Lib.hid (O2.out.mono o3.below); clear o3)
            | (go_at_call 20; refine (refHas_any A3 _ c3 (pathI a d l k) p _ s3).mono ?_; rintro e w4 ⟨rfl, rfl⟩; rw [hct])
            | (at_builtin; refine wpList_push rfl (.tmp 25) (.tmp 27) 31 rfl tNums rfl O3.out #[_] rfl rfl (one_int _ _) (by omega) ?_; intro v5 w5 o5))
          go_roundw
          case rel => exact ⟨k + 1, by omega, by go_num, by rw [HU.out.1, HU.out.2]; exact o5⟩
          case measure => simp [intOf]; omega
      · have HU : Hid ((undTo a d l p (k + 1)).length = U.length + 1 ∧ (undTo a d l p (k + 1)).map i64c = U.map i64c ++ [.int .i64 k]) := by rw [HSN.out, hlf]; simp; exact rfl
        go_wp2_with (first
          | (go_at_call 47; refine (refLeaf_any a d l k _).mono ?_; rintro e w2 ⟨rfl, b2⟩; have O2 := Lib.hid (HO1.out.mono b2); clear b2)
          | (at_builtin; refine wpList_push rfl (.tmp 25) (.tmp 27) 31 rfl tNums rfl O2.out #[_] rfl rfl (one_int _ _) (by omega) ?_; intro v5 w5 o5))
        go_roundw
        case rel => exact ⟨k + 1, by omega, by go_num, by rw [HU.out.1, HU.out.2]; exact o5⟩
        case measure => simp [intOf]; omega
    · obtain rfl : k = N := by omega
      go_wp2
      go_ret
      exact ⟨_, rfl, by rw [← HE.out, HUE.out]; exact HO1.out.base HB.out⟩

/-! ### the pages above slots -/
set_option maxHeartbeats 2000000 in
theorem refTouched_any (a d l : Int) (B : Option Addr) (m c : Nat) (S : List Int) (w : World) (h : Is w B m c S) :
    Calls Try.prog 27 #[.agg #[.int .i64 a, .int .i64 d, .int .i64 l], .slice B m c] w (RetIs w (touR a d l S (pagesI a d l).toNat)) := by
  have hb : Below w.heap.size w (w.alloc (.cells #[.int .i64 a, .int .i64 d, .int .i64 l] 40)) := (Below.refl _ _).alloc (Nat.le_refl _) _
  have hc := (Blk.new w 40 #[.int .i64 a, .int .i64 d, .int .i64 l])
  obtain ⟨wl, hwl⟩ : ∃ wl, wl = w.alloc (.cells #[.int .i64 a, .int .i64 d, .int .i64 l] 40) := ⟨_, rfl⟩
  rw [← hwl] at hb hc
  have HB := Lib.hid hb; have HWL := Lib.hid hwl; clear hb hwl
  have HCELL : Hid (∀ (i : Nat) (v : Value), [Value.int .i64 a, .int .i64 d, .int .i64 l][i]? = some v → ∀ wq, Below wl.heap.size wl wq → wq.cell? ⟨w.heap.size, i, none⟩ = some v) := by
    intro i v hv wq hq
    rw [hq.cell (p := ⟨w.heap.size, i, none⟩) hc.lt, hc.cell]
    exact hv
  clear hc
  have n1 := nodes_le a d l
  have n2 := leaves_le a d l
  have n3 := pagesI_eq a d l
  obtain ⟨N, hN⟩ := Int.eq_ofNat_of_zero_le (show 0 ≤ pagesI a d l by omega)
  have hN64 : N ≤ 300 := by omega
  have HE : Hid ((pagesI a d l).toNat = N) := by show _ = _; omega
  have HI : Hid (Is wl B m c S) := h.mono HB.out
  have HN := Lib.hid hN; clear hN n1 n2 n3 h
  go_enter Try.func27, Try.ntmps27
  go_wp2_with fail
  rw [← HWL.out]
  go_loopw [5, 6] (fun v i wr => ∃ k : Nat, k ≤ N ∧ i = .int .i64 k ∧ Own wl wr 3 1 v (touR a d l S k).length ((touR a d l S k).map i64c)) (fun _ i _ => N - (intOf i).toNat)
  case atStart => exact ⟨0, Nat.zero_le _, rfl, Own.nil _ _ _⟩
  case round =>
    obtain ⟨k, hk, rfl, hown⟩ := hrel
    have hl := touR_len (a := a) (d := d) (l := l) S k
    have HSN := Lib.hid (touR_snoc (a := a) (d := d) (l := l) S k)
    generalize hU : touR a d l S k = U at *
    have HUE := Lib.hid hU; clear hU
    have HO := Lib.hid hown
    have hbw := hown.below
    clear hown
    have c0 := HCELL.out 0 _ rfl wr hbw
    have c1 := HCELL.out 1 _ rfl wr hbw
    have c2 := HCELL.out 2 _ rfl wr hbw
    go_wp2_with fail
    refine (refPages_any _ _ l _).mono ?_
    rintro e w1 ⟨rfl, b1⟩
    rw [HN.out]
    have hbw1 := below_both hbw b1
    have HO1 := Lib.hid (HO.out.mono b1)
    clear b1 c0 c1 c2
    have c0 := HCELL.out 0 _ rfl w1 hbw1
    have c1 := HCELL.out 1 _ rfl w1 hbw1
    have c2 := HCELL.out 2 _ rfl w1 hbw1
    have HBW1 := Lib.hid hbw1
    by_cases hlt : k < N
    · go_wp2_with fail
      refine (refUnder_any a d l k _).mono ?_
      rintro e w2 ⟨v2, rfl, o2⟩
      obtain ⟨A2, c2', rfl, s2⟩ := o2.slice
      have HO2 := Lib.hid (HO1.out.mono o2.below)
      have HI2 : Hid (Is w2 B m c S) := HI.out.mono (below_both HBW1.out o2.below)
      have m2 := Sl.max s2
      have q2 := Sl.cap s2
      have HS2 := Lib.hid (show Is w2 A2 _ c2' (underI a d l k) from s2)
      generalize hV : underI a d l k = V at *
      have HVE := Lib.hid hV; clear hV
      clear s2 o2 c0 c1 c2
      obtain ⟨wo, rfl⟩ : ∃ wo : World, wo = wr := ⟨_, rfl⟩
      obtain ⟨uo, rfl⟩ : ∃ uo : Value, uo = u5 := ⟨_, rfl⟩
      go_wp2
      go_loopw [7, 9] (fun bv i wq => ∃ j : Nat, j ≤ V.length ∧ i = .int .i64 j ∧ wq = w2 ∧ bv = .bool ((V.take j).any fun u => S.contains u)) (fun _ i _ => V.length - (intOf i).toNat)
      case atStart => exact ⟨0, Nat.zero_le _, rfl, rfl, rfl⟩
      case round =>
        obtain ⟨j, hj, rfl, rfl, rfl⟩ := hrel
        by_cases hlt2 : j < V.length
        · obtain ⟨b3, o3, rfl, hc3⟩ := HS2.out.addr (by omega)
          have c3 := hc3 j hlt2
          clear hc3
          have HAN : Hid ((V.take (j + 1)).any (fun u => S.contains u) = ((V.take j).any (fun u => S.contains u) || S.contains (iAt V j))) := by
            show _ = _
            rw [List.take_succ_eq_append_getElem hlt2, List.any_append]
            unfold iAt; rw [List.getD_eq_getElem?_getD, List.getElem?_eq_getElem hlt2]; simp
          cases ha : (V.take j).any fun u => S.contains u
          · have HA2 : Hid ((V.take (j + 1)).any (fun u => S.contains u) = S.contains (iAt V j)) := by rw [HAN.out, ha]; exact Bool.false_or _
            clear ha HAN
            go_wp2_with (go_at_call 20; refine (refHas_any B m c S _ _ HI2.out).mono ?_; rintro e w4 ⟨rfl, rfl⟩)
            go_roundw
            case rel => exact ⟨j + 1, by omega, by go_num, by first | trivial | rfl, by rw [HA2.out, List.contains_eq_mem]⟩
            case measure => simp [intOf]; omega
          · have HA2 : Hid ((V.take (j + 1)).any (fun u => S.contains u) = true) := by rw [HAN.out, ha]; exact Bool.true_or _
            clear ha HAN
            go_wp2
            go_roundw
            case rel => exact ⟨j + 1, by omega, by go_num, by first | trivial | rfl, by rw [HA2.out]⟩
            case measure => simp [intOf]; omega
        · obtain rfl : j = V.length := by omega
          have HTK : Hid (V.take V.length = V) := List.take_of_length_le (Nat.le_refl _)
          rw [HTK.out]
          cases ha : V.any fun u => S.contains u
          · have HU : Hid (touR a d l S (k + 1) = U) := by show _ = _; rw [HSN.out, ha]; simp
            clear ha
            go_wp2
            go_roundw
            case rel => exact ⟨k + 1, by omega, by go_num, by rw [HU.out]; exact HO2.out⟩
            case measure => simp [intOf]; omega
          · have HU : Hid ((touR a d l S (k + 1)).length = U.length + 1 ∧ (touR a d l S (k + 1)).map i64c = U.map i64c ++ [.int .i64 k]) := by rw [HSN.out, ha]; simp; exact rfl
            clear ha
            go_wp2_with (at_builtin; refine wpList_push rfl (.tmp 35) (.tmp 37) 31 rfl tNums rfl HO2.out #[_] rfl rfl (one_int _ _) (by omega) ?_; intro v5 w5 o5)
            go_roundw
            case rel => exact ⟨k + 1, by omega, by go_num, by rw [HU.out.1, HU.out.2]; exact o5⟩
            case measure => simp [intOf]; omega
    · obtain rfl : k = N := by omega
      go_wp2
      go_ret
      exact ⟨_, rfl, by rw [HE.out, HUE.out]; exact HO1.out.base HB.out⟩
end Go.Proofs.Ytbmijjodpdbbmaa
